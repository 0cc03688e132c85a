/- A text of seat YteoicjlhkaljbaaDoor: what the law FnRecordTextLast needs of this repo's texts (by pack.py). Not trusted: Lean checks it. -/
import Derived.Test.YteoicjlhkaljbaaDoorKFnRecordTextLast6
import Derived.Deep.Slices
import Derived.SizedLaws
import Derived.Laws.BitsLemmas
import Derived.Lay
import Derived.LaidMore
import Derived.MakeChecks
import Derived.Stop.LaidErr
import Derived.Test.YteoicjlhkaljbaaDoorRows
import Derived.Test.YteoicjlhkaljbaaDoorCards
import Derived.Test.YteoicjlhkaljbaaDoorTie
import Derived.SevenTiedAt
import Derived.WalkSmall
import Derived.ChangeVars
import Derived.JoinedOf
import Derived.LaidLaws
import Derived.LaidHandle
import Derived.Stop.LaidTwo
import Derived.Stop.Joined
import Derived.RowKitTokens
import Derived.WalkKit
import Derived.ProofKit
import Derived.OpenShut
import Derived.ShutString
import Derived.ChangeOld
import Derived.Below
import Derived.Lib.SmallJoins
import Derived.Laws.StructEq
import Derived.ChangeSlices
namespace Go.Proofs.YteoicjlhkaljbaaDoor.G
open Go.RowKit Go.Proofs.YteoicjlhkaljbaaDoorW.PrintWords Go.Proofs.YteoicjlhkaljbaaDoorW.PrintLast Go.Proofs.YteoicjlhkaljbaaDoorW.PrintMore
attribute [local go_sem] max2_int min2_int max_two min_two max_three min_three max_four min_four   -- for this text's walks alone
set_option linter.unusedVariables false
set_option linter.unusedSimpArgs false

def spec_l41Text.f (k : Nat) (a0_0 : Int) (a0_1 : Int) (a0_2 : Bool) (l0_3 : List Int) (a0_4 : Bool) (l0_5 : List Int) : Option (ByteArray) := (spec_l6Dec.f k a0_0).bind fun t237 => (if t237.size + 1 ≤ 9223372036854775807 then ((spec_l6Dec.f k a0_1).bind fun t238 => (if (t237 ++ (⟨#[32]⟩ : ByteArray)).size + t238.size ≤ 9223372036854775807 then (if ((t237 ++ (⟨#[32]⟩ : ByteArray)) ++ t238).size + 1 ≤ 9223372036854775807 then ((spec_l41Part.f k a0_2 l0_3).bind fun t239 => (if (((t237 ++ (⟨#[32]⟩ : ByteArray)) ++ t238) ++ (⟨#[32]⟩ : ByteArray)).size + t239.size ≤ 9223372036854775807 then (if ((((t237 ++ (⟨#[32]⟩ : ByteArray)) ++ t238) ++ (⟨#[32]⟩ : ByteArray)) ++ t239).size + 1 ≤ 9223372036854775807 then ((spec_l41Part.f k a0_4 l0_5).bind fun t240 => (if (((((t237 ++ (⟨#[32]⟩ : ByteArray)) ++ t238) ++ (⟨#[32]⟩ : ByteArray)) ++ t239) ++ (⟨#[32]⟩ : ByteArray)).size + t240.size ≤ 9223372036854775807 then (some ((((((t237 ++ (⟨#[32]⟩ : ByteArray)) ++ t238) ++ (⟨#[32]⟩ : ByteArray)) ++ t239) ++ (⟨#[32]⟩ : ByteArray)) ++ t240)) else (none))) else (none)) else (none))) else (none)) else (none))) else (none))
def spec_l41Text.T1 : Bool × List (List Nat × List Nat) := (true, [([], []), ([0], [0]), ([1], [1]), ([2], [2]), ([], []), ([4], [4]), ([5, 2], [5]), ([3, 6], [3, 6]), ([7], [7]), ([], []), ([9], [9]), ([], []), ([11], [11]), ([10, 12, 6], [10, 12]), ([8, 13], [8, 13]), ([14], [14]), ([], []), ([16], [16]), ([], []), ([18], [18]), ([17, 19, 13], [17, 19]), ([15, 20], [15, 20]), ([21, 20, 0, 1, 2, 3, 4, 5, 6, 7, 8, 9, 10, 11, 12, 13, 14, 15, 16, 17, 18, 19, 20, 21], [21])])
def spec_l41Text.B1 : List Nat := [0, 1, 3, 7, 0, 16, 55, 127, 255, 0, 512, 0, 2048, 7799, 16383, 32767, 0, 65536, 0, 262144, 999031, 2097151, 4194303]
theorem spec_l41Text.tab1 : rtab .any (opsOf Tryd.f38 1) = spec_l41Text.T1 := by kernel_rfl
theorem spec_l41Text.bits1 : waitsOk spec_l41Text.T1.2 spec_l41Text.B1 = true := by kernel_rfl
set_option maxHeartbeats 8000000 in
set_option maxRecDepth 100000 in
theorem spec_l41Text.calls (k : Nat) (a0_0 : Int) (a0_1 : Int) (a0_2 : Bool) (A0_3 : Option Addr) (c0_3 : Nat) (l0_3 : List Int) (a0_4 : Bool) (A0_5 : Option Addr) (c0_5 : Nat) (l0_5 : List Int) (r : ByteArray) (w : World) (hr0_3 : Kd.C (Kd.int .i64) w A0_3 l0_3.length l0_3) (hc0_3 : l0_3.length ≤ c0_3) (hr0_5 : Kd.C (Kd.int .i64) w A0_5 l0_5.length l0_5) (hc0_5 : l0_5.length ≤ c0_5) (h : spec_l41Text.f k a0_0 a0_1 a0_2 l0_3 a0_4 l0_5 = some r) :
  Calls Tryd.prog 38 #[.agg #[.int .i64 a0_0, .int .i64 a0_1, .bool a0_2, .slice A0_3 l0_3.length c0_3, .bool a0_4, .slice A0_5 l0_5.length c0_5]] w fun e w' => e = .returned (.string r) ∧ Below w.heap.size w w' := by
 have hu25 := Tryd.underlying25
 have HR0_3 := Aside0.mk hr0_3
 have HC0_3 := Aside0.mk hc0_3
 clear hr0_3 hc0_3
 have HR0_5 := Aside0.mk hr0_5
 have HC0_5 := Aside0.mk hc0_5
 clear hr0_5 hc0_5
 have HB := Aside0.mk (Below.refl w.heap.size w)
 have H : ((spec_l6Dec.f k a0_0).bind fun t237 => (if t237.size + 1 ≤ 9223372036854775807 then ((spec_l6Dec.f k a0_1).bind fun t238 => (if (t237 ++ (⟨#[32]⟩ : ByteArray)).size + t238.size ≤ 9223372036854775807 then (if ((t237 ++ (⟨#[32]⟩ : ByteArray)) ++ t238).size + 1 ≤ 9223372036854775807 then ((spec_l41Part.f k a0_2 l0_3).bind fun t239 => (if (((t237 ++ (⟨#[32]⟩ : ByteArray)) ++ t238) ++ (⟨#[32]⟩ : ByteArray)).size + t239.size ≤ 9223372036854775807 then (if ((((t237 ++ (⟨#[32]⟩ : ByteArray)) ++ t238) ++ (⟨#[32]⟩ : ByteArray)) ++ t239).size + 1 ≤ 9223372036854775807 then ((spec_l41Part.f k a0_4 l0_5).bind fun t240 => (if (((((t237 ++ (⟨#[32]⟩ : ByteArray)) ++ t238) ++ (⟨#[32]⟩ : ByteArray)) ++ t239) ++ (⟨#[32]⟩ : ByteArray)).size + t240.size ≤ 9223372036854775807 then (some ((((((t237 ++ (⟨#[32]⟩ : ByteArray)) ++ t238) ++ (⟨#[32]⟩ : ByteArray)) ++ t239) ++ (⟨#[32]⟩ : ByteArray)) ++ t240)) else (none))) else (none)) else (none))) else (none)) else (none))) else (none))) = some r := h
 clear h
 replace H := tbe H
 obtain ⟨t237, A2, H⟩ := H
 by_cases c3 : t237.size + 1 ≤ 9223372036854775807
 ·rw [if_pos c3] at H
  have c3b0 := eq_true c3
  have c3b1 : decide (t237.size + 1 ≤ 9223372036854775807) = true := decide_eq_true c3
  try have c3b2 : (9223372036854775807 < t237.size + 1) = False := eq_false (Nat.not_lt.2 c3)
  replace H := tbe H
  obtain ⟨t238, A4, H⟩ := H
  by_cases c5 : (t237 ++ (⟨#[32]⟩ : ByteArray)).size + t238.size ≤ 9223372036854775807
  ·rw [if_pos c5] at H
   have c5b0 := eq_true c5
   have c5b1 : decide ((t237 ++ (⟨#[32]⟩ : ByteArray)).size + t238.size ≤ 9223372036854775807) = true := decide_eq_true c5
   try have c5b2 : (9223372036854775807 < (t237 ++ (⟨#[32]⟩ : ByteArray)).size + t238.size) = False := eq_false (Nat.not_lt.2 c5)
   (try (have c5y : (9223372036854775807 < t237.size + 1 + t238.size) = False := eq_false (by have h_ := c5; simp only [ByteArray.size_append, show (⟨#[32]⟩ : ByteArray).size = 1 from rfl] at h_; omega)))
   by_cases c6 : ((t237 ++ (⟨#[32]⟩ : ByteArray)) ++ t238).size + 1 ≤ 9223372036854775807
   ·rw [if_pos c6] at H
    have c6b0 := eq_true c6
    have c6b1 : decide (((t237 ++ (⟨#[32]⟩ : ByteArray)) ++ t238).size + 1 ≤ 9223372036854775807) = true := decide_eq_true c6
    try have c6b2 : (9223372036854775807 < ((t237 ++ (⟨#[32]⟩ : ByteArray)) ++ t238).size + 1) = False := eq_false (Nat.not_lt.2 c6)
    (try (have c6y : (9223372036854775807 < t237.size + 1 + t238.size + 1) = False := eq_false (by have h_ := c6; simp only [ByteArray.size_append, show (⟨#[32]⟩ : ByteArray).size = 1 from rfl] at h_; omega)))
    replace H := tbe H
    obtain ⟨t239, A7, H⟩ := H
    by_cases c8 : (((t237 ++ (⟨#[32]⟩ : ByteArray)) ++ t238) ++ (⟨#[32]⟩ : ByteArray)).size + t239.size ≤ 9223372036854775807
    ·rw [if_pos c8] at H
     have c8b0 := eq_true c8
     have c8b1 : decide ((((t237 ++ (⟨#[32]⟩ : ByteArray)) ++ t238) ++ (⟨#[32]⟩ : ByteArray)).size + t239.size ≤ 9223372036854775807) = true := decide_eq_true c8
     try have c8b2 : (9223372036854775807 < (((t237 ++ (⟨#[32]⟩ : ByteArray)) ++ t238) ++ (⟨#[32]⟩ : ByteArray)).size + t239.size) = False := eq_false (Nat.not_lt.2 c8)
     (try (have c8y : (9223372036854775807 < t237.size + 1 + t238.size + 1 + t239.size) = False := eq_false (by have h_ := c8; simp only [ByteArray.size_append, show (⟨#[32]⟩ : ByteArray).size = 1 from rfl] at h_; omega)))
     by_cases c9 : ((((t237 ++ (⟨#[32]⟩ : ByteArray)) ++ t238) ++ (⟨#[32]⟩ : ByteArray)) ++ t239).size + 1 ≤ 9223372036854775807
     ·rw [if_pos c9] at H
      have c9b0 := eq_true c9
      have c9b1 : decide (((((t237 ++ (⟨#[32]⟩ : ByteArray)) ++ t238) ++ (⟨#[32]⟩ : ByteArray)) ++ t239).size + 1 ≤ 9223372036854775807) = true := decide_eq_true c9
      try have c9b2 : (9223372036854775807 < ((((t237 ++ (⟨#[32]⟩ : ByteArray)) ++ t238) ++ (⟨#[32]⟩ : ByteArray)) ++ t239).size + 1) = False := eq_false (Nat.not_lt.2 c9)
      (try (have c9y : (9223372036854775807 < t237.size + 1 + t238.size + 1 + t239.size + 1) = False := eq_false (by have h_ := c9; simp only [ByteArray.size_append, show (⟨#[32]⟩ : ByteArray).size = 1 from rfl] at h_; omega)))
      replace H := tbe H
      obtain ⟨t240, A10, H⟩ := H
      by_cases c11 : (((((t237 ++ (⟨#[32]⟩ : ByteArray)) ++ t238) ++ (⟨#[32]⟩ : ByteArray)) ++ t239) ++ (⟨#[32]⟩ : ByteArray)).size + t240.size ≤ 9223372036854775807
      ·rw [if_pos c11] at H
       have c11b0 := eq_true c11
       have c11b1 : decide ((((((t237 ++ (⟨#[32]⟩ : ByteArray)) ++ t238) ++ (⟨#[32]⟩ : ByteArray)) ++ t239) ++ (⟨#[32]⟩ : ByteArray)).size + t240.size ≤ 9223372036854775807) = true := decide_eq_true c11
       try have c11b2 : (9223372036854775807 < (((((t237 ++ (⟨#[32]⟩ : ByteArray)) ++ t238) ++ (⟨#[32]⟩ : ByteArray)) ++ t239) ++ (⟨#[32]⟩ : ByteArray)).size + t240.size) = False := eq_false (Nat.not_lt.2 c11)
       (try (have c11y : (9223372036854775807 < t237.size + 1 + t238.size + 1 + t239.size + 1 + t240.size) = False := eq_false (by have h_ := c11; simp only [ByteArray.size_append, show (⟨#[32]⟩ : ByteArray).size = 1 from rfl] at h_; omega)))
       obtain rfl := Option.some.inj H
       go_enter Tryd.func38, Tryd.ntmps38
       try go_wp2_with (first | ((with_reducible refine gate_dst (N := 1) rfl ?_); refine box_event ?hg (N := 1) ?hd (cs := #[.int .i64 a0_0, .int .i64 a0_1, .bool a0_2, .slice A0_3 l0_3.length c0_3, .bool a0_4, .slice A0_5 l0_5.length c0_5]) (t := 25) ?hr ?_; (case hd => rfl); (case hg => rfl); (case hr => first | (go_simp; done) | (go_simp; rfl)); intro gb236 hg w12 hbox hb; have BK236 := Aside0.mk (hbox); have GW236 := tge HB hg; have GE236 := tge HB hg; replace HB := tBs HB hb; clear hb hbox hg))
       replace BK236 := Aside0.mk (blk_drew BK236.out)
       replace HB := Aside0.mk (below_drew1 HB.out)
       refine start_ (n := 23) (S := fun w' => w'.cell? ⟨gb236, 0, none⟩ = some (.int .i64 a0_0) ∧ w'.cell? ⟨gb236, 1, none⟩ = some (.int .i64 a0_1) ∧ w'.cell? ⟨gb236, 2, none⟩ = some (.bool a0_2) ∧ w'.cell? ⟨gb236, 3, none⟩ = some (.slice A0_3 l0_3.length c0_3) ∧ w'.cell? ⟨gb236, 4, none⟩ = some (.bool a0_4) ∧ w'.cell? ⟨gb236, 5, none⟩ = some (.slice A0_5 l0_5.length c0_5)) (ds := []) #[false, false, false, false, false, false, false, false, false, false, false, false, false, false, false, false, false, false, false, false, false, false, false] (by kernel_rfl) rfl rfl ⟨(blk_cell BK236.out 0).trans rfl, (blk_cell BK236.out 1).trans rfl, (blk_cell BK236.out 2).trans rfl, (blk_cell BK236.out 3).trans rfl, (blk_cell BK236.out 4).trans rfl, (blk_cell BK236.out 5).trans rfl⟩ (fun hHeld => ?_); refine with_tabW spec_l41Text.tab1 spec_l41Text.bits1 (fun HT_ HW_ => ?_)
       generalize w12.drew = w13 at BK236 HB hHeld ⊢
       refine tpu 0 (some 3) #[true, false, false, false, false, false, false, false, false, false, false, false, false, false, false, false, false, false, false, false, false, false, false] ?_
       refine tpu 4 (some 7) #[true, false, false, false, true, false, false, false, false, false, false, false, false, false, false, false, false, false, false, false, false, false, false] ?_
       refine tpu 9 (some 12) #[true, false, false, false, true, false, false, false, false, true, false, false, false, false, false, false, false, false, false, false, false, false, false] ?_
       refine tpu 11 (some 14) #[true, false, false, false, true, false, false, false, false, true, false, true, false, false, false, false, false, false, false, false, false, false, false] ?_
       refine tpu 16 (some 19) #[true, false, false, false, true, false, false, false, false, true, false, true, false, false, false, false, true, false, false, false, false, false, false] ?_
       refine tpu 18 (some 21) #[true, false, false, false, true, false, false, false, false, true, false, true, false, false, false, false, true, false, true, false, false, false, false] ?_
       refine tta 1 (some 4) #[true, true, false, false, true, false, false, false, false, true, false, true, false, false, false, false, true, false, true, false, false, false, false] hHeld ?_ (hy := by rintro w' ⟨s0, s1, s2, s3, s4, s5⟩; go_simp; with_reducible rfl)
       refine tta 5 (some 8) #[true, true, false, false, true, true, false, false, false, true, false, true, false, false, false, false, true, false, true, false, false, false, false] hHeld ?_ (hy := by rintro w' ⟨s0, s1, s2, s3, s4, s5⟩; go_simp; with_reducible rfl)
       refine tta 10 (some 13) #[true, true, false, false, true, true, false, false, false, true, true, true, false, false, false, false, true, false, true, false, false, false, false] hHeld ?_ (hy := by rintro w' ⟨s0, s1, s2, s3, s4, s5⟩; go_simp; with_reducible rfl)
       refine tta 12 (some 15) #[true, true, false, false, true, true, false, false, false, true, true, true, true, false, false, false, true, false, true, false, false, false, false] hHeld ?_ (hy := by rintro w' ⟨s0, s1, s2, s3, s4, s5⟩; go_simp; with_reducible rfl)
       refine tta 17 (some 20) #[true, true, false, false, true, true, false, false, false, true, true, true, true, false, false, false, true, true, true, false, false, false, false] hHeld ?_ (hy := by rintro w' ⟨s0, s1, s2, s3, s4, s5⟩; go_simp; with_reducible rfl)
       refine tta 19 (some 22) #[true, true, false, false, true, true, false, false, false, true, true, true, true, false, false, false, true, true, true, true, false, false, false] hHeld ?_ (hy := by rintro w' ⟨s0, s1, s2, s3, s4, s5⟩; go_simp; with_reducible rfl)
       refine one_ (i := 2) (N := some 5) #[true, true, true, false, true, true, false, false, false, true, true, true, true, false, false, false, true, true, true, true, false, false, false] rfl rfl (one_of HT_.out (by kernel_rfl)) (by decide) (fun K hK => ?_)
       refine goes_ Tryd.func72 (by kernel_rfl) rfl #[.int .i64 a0_0] (by rfl) rfl rfl tq ?_
       with_reducible refine (spec_l6Dec.calls k a0_0 t237 _ A2.out).mono ?_
       rintro e w14 ⟨rfl, hb⟩
       refine ⟨_, rfl, ?_⟩
       replace BK236 := tBb BK236 hb
       replace HB := tBs HB hb
       (try clear hb)
       (try clear hb2)
       (try clear hk)
       (try clear hi)
       refine hK.out _ _ ⟨(blk_cell BK236.out 0).trans rfl, (blk_cell BK236.out 1).trans rfl, (blk_cell BK236.out 2).trans rfl, (blk_cell BK236.out 3).trans rfl, (blk_cell BK236.out 4).trans rfl, (blk_cell BK236.out 5).trans rfl⟩ (fun hHeld => ?_)
       clear hK K
       refine tnm (some 5) ?_
       refine tpu 3 (some 6) #[true, true, true, true, true, true, false, false, false, true, true, true, true, false, false, false, true, true, true, true, false, false, false] ?_
       refine one_ (i := 6) (N := some 9) #[true, true, true, true, true, true, true, false, false, true, true, true, true, false, false, false, true, true, true, true, false, false, false] rfl rfl (one_of HT_.out (by kernel_rfl)) (by decide) (fun K hK => ?_)
       refine goes_ Tryd.func72 (by kernel_rfl) rfl #[.int .i64 a0_1] (by rfl) rfl rfl tq ?_
       with_reducible refine (spec_l6Dec.calls k a0_1 t238 _ A4.out).mono ?_
       rintro e w15 ⟨rfl, hb⟩
       refine ⟨_, rfl, ?_⟩
       replace BK236 := tBb BK236 hb
       replace HB := tBs HB hb
       (try clear hb)
       (try clear hb2)
       (try clear hk)
       (try clear hi)
       refine hK.out _ _ ⟨(blk_cell BK236.out 0).trans rfl, (blk_cell BK236.out 1).trans rfl, (blk_cell BK236.out 2).trans rfl, (blk_cell BK236.out 3).trans rfl, (blk_cell BK236.out 4).trans rfl, (blk_cell BK236.out 5).trans rfl⟩ (fun hHeld => ?_)
       clear hK K
       refine tnm (some 9) ?_
       refine tpu 7 (some 10) #[true, true, true, true, true, true, true, true, false, true, true, true, true, false, false, false, true, true, true, true, false, false, false] ?_
       refine tpu 8 (some 11) #[true, true, true, true, true, true, true, true, true, true, true, true, true, false, false, false, true, true, true, true, false, false, false] ?_
       refine one_ (i := 13) (N := some 16) #[true, true, true, true, true, true, true, true, true, true, true, true, true, true, false, false, true, true, true, true, false, false, false] rfl rfl (one_of HT_.out (by kernel_rfl)) (by decide) (fun K hK => ?_)
       refine goes_ Tryd.func73 (by kernel_rfl) rfl #[.bool a0_2, .slice A0_3 l0_3.length c0_3] (by rfl) rfl rfl tq ?_
       with_reducible refine (spec_l41Part.calls k a0_2 _ _ l0_3 t239 _ ?side1 ?side2 A7.out).mono ?_
       (case side1 => exact tC (Kd.C_below HR0_3.out HB.out))
       (case side2 => exact HC0_3.out)
       rintro e w' ⟨rfl, ⟨nd, rfl⟩⟩
       refine ⟨_, rfl, ?_⟩
       refine hK.out _ _ ⟨(blk_cell BK236.out 0).trans rfl, (blk_cell BK236.out 1).trans rfl, (blk_cell BK236.out 2).trans rfl, (blk_cell BK236.out 3).trans rfl, (blk_cell BK236.out 4).trans rfl, (blk_cell BK236.out 5).trans rfl⟩ (fun hHeld => ?_)
       clear hK K
       refine tnm (some 16) ?_
       refine tpu 14 (some 17) #[true, true, true, true, true, true, true, true, true, true, true, true, true, true, true, false, true, true, true, true, false, false, false] ?_
       refine tpu 15 (some 18) #[true, true, true, true, true, true, true, true, true, true, true, true, true, true, true, true, true, true, true, true, false, false, false] ?_
       refine one_ (i := 20) (N := some 23) #[true, true, true, true, true, true, true, true, true, true, true, true, true, true, true, true, true, true, true, true, true, false, false] rfl rfl (one_of HT_.out (by kernel_rfl)) (by decide) (fun K hK => ?_)
       refine goes_ Tryd.func73 (by kernel_rfl) rfl #[.bool a0_4, .slice A0_5 l0_5.length c0_5] (by rfl) rfl rfl tq ?_
       with_reducible refine (spec_l41Part.calls k a0_4 _ _ l0_5 t240 _ ?side1 ?side2 A10.out).mono ?_
       (case side1 => exact tC (Kd.C_below HR0_5.out zb))
       (case side2 => exact HC0_5.out)
       rintro e w' ⟨rfl, ⟨nd, rfl⟩⟩
       refine ⟨_, rfl, ?_⟩
       refine hK.out _ _ ⟨(blk_cell BK236.out 0).trans rfl, (blk_cell BK236.out 1).trans rfl, (blk_cell BK236.out 2).trans rfl, (blk_cell BK236.out 3).trans rfl, (blk_cell BK236.out 4).trans rfl, (blk_cell BK236.out 5).trans rfl⟩ (fun hHeld => ?_)
       clear hK K
       refine tnm (some 23) ?_
       refine tpu 21 (some 24) #[true, true, true, true, true, true, true, true, true, true, true, true, true, true, true, true, true, true, true, true, true, true, false] ?_
       refine tpu 22 (some 2) #[true, true, true, true, true, true, true, true, true, true, true, true, true, true, true, true, true, true, true, true, true, true, true] ?_
       refine done_ (done_of HT_.out (by kernel_rfl)) ?_
       try go_wp2
       go_ret
       exact ⟨by first | rfl | (simp [errW_none, errW_some] <;> rfl) | (simp [*, errW_none, errW_some] <;> rfl), zb⟩
      ·rw [if_neg c11] at H
       exact absurd H (by simp)
     ·rw [if_neg c9] at H
      exact absurd H (by simp)
    ·rw [if_neg c8] at H
     exact absurd H (by simp)
   ·rw [if_neg c6] at H
    exact absurd H (by simp)
  ·rw [if_neg c5] at H
   exact absurd H (by simp)
 ·rw [if_neg c3] at H
  exact absurd H (by simp)

def spec_RecordText.f (k : Nat) (a0_0 : Int) (a0_1 : Int) (a0_2 : Bool) (l0_3 : List Int) (a0_4 : Bool) (l0_5 : List Int) : Option (ByteArray) := (spec_RecordValid.f k a0_0 a0_1 a0_2 l0_3 a0_4 l0_5).bind fun t242 => (if t242 = true then ((spec_l41Text.f k a0_0 a0_1 a0_2 l0_3 a0_4 l0_5).bind fun t243 => (some t243)) else (some (⟨#[]⟩ : ByteArray)))
set_option maxHeartbeats 8000000 in
set_option maxRecDepth 100000 in
theorem spec_RecordText.calls (k : Nat) (a0_0 : Int) (a0_1 : Int) (a0_2 : Bool) (A0_3 : Option Addr) (c0_3 : Nat) (l0_3 : List Int) (a0_4 : Bool) (A0_5 : Option Addr) (c0_5 : Nat) (l0_5 : List Int) (r : ByteArray) (w : World) (hr0_3 : Kd.C (Kd.int .i64) w A0_3 l0_3.length l0_3) (hc0_3 : l0_3.length ≤ c0_3) (hr0_5 : Kd.C (Kd.int .i64) w A0_5 l0_5.length l0_5) (hc0_5 : l0_5.length ≤ c0_5) (h : spec_RecordText.f k a0_0 a0_1 a0_2 l0_3 a0_4 l0_5 = some r) :
  Calls Tryd.prog 14 #[.agg #[.int .i64 a0_0, .int .i64 a0_1, .bool a0_2, .slice A0_3 l0_3.length c0_3, .bool a0_4, .slice A0_5 l0_5.length c0_5]] w fun e w' => e = .returned (.string r) ∧ Below w.heap.size w w' := by
 have hu25 := Tryd.underlying25
 have HR0_3 := Aside0.mk hr0_3
 have HC0_3 := Aside0.mk hc0_3
 clear hr0_3 hc0_3
 have HR0_5 := Aside0.mk hr0_5
 have HC0_5 := Aside0.mk hc0_5
 clear hr0_5 hc0_5
 have HB := Aside0.mk (Below.refl w.heap.size w)
 have H : ((spec_RecordValid.f k a0_0 a0_1 a0_2 l0_3 a0_4 l0_5).bind fun t242 => (if t242 = true then ((spec_l41Text.f k a0_0 a0_1 a0_2 l0_3 a0_4 l0_5).bind fun t243 => (some t243)) else (some (⟨#[]⟩ : ByteArray)))) = some r := h
 clear h
 replace H := tbe H
 obtain ⟨t242, A2, H⟩ := H
 by_cases c3 : t242 = true
 ·subst c3
  rw [if_pos rfl] at H
  replace H := tbe H
  obtain ⟨t243, A4, H⟩ := H
  obtain rfl := Option.some.inj H
  go_enter Tryd.func14, Tryd.ntmps14
  go_wp2_with (first | ((with_reducible refine gate_dst (N := 1) rfl ?_); refine box_event ?hg (N := 1) ?hd (cs := #[.int .i64 a0_0, .int .i64 a0_1, .bool a0_2, .slice A0_3 l0_3.length c0_3, .bool a0_4, .slice A0_5 l0_5.length c0_5]) (t := 25) ?hr ?_; (case hd => rfl); (case hg => rfl); (case hr => first | (go_simp; done) | (go_simp; rfl)); intro gb241 hg w5 hbox hb; have BK241 := Aside0.mk (hbox); have GW241 := tge HB hg; have GE241 := tge HB hg; replace HB := tBs HB hb; clear hb hbox hg; obtain ⟨hcz6_0, hcz6_1, hcz6_2, hcz6_3, hcz6_4, hcz6_5, hfz6_0, hfz6_1, hfz6_2, hfz6_3, hfz6_4, hfz6_5⟩ := cells6 BK241.out) | ((with_reducible refine gate_callee (f := 37) rfl ?_); refine goesL_ (some 4) rfl rfl Tryd.func37 (by kernel_rfl) rfl #[.agg #[.int .i64 a0_0, .int .i64 a0_1, .bool a0_2, .slice A0_3 l0_3.length c0_3, .bool a0_4, .slice A0_5 l0_5.length c0_5]] rfl tq ?_; (with_reducible refine (spec_RecordValid.calls k a0_0 a0_1 a0_2 _ _ l0_3 a0_4 _ _ l0_5 true _ ?side1 ?side2 ?side3 ?side4 A2.out).mono ?_); (case side1 => exact tC (Kd.C_below HR0_3.out HB.out)); (case side2 => exact HC0_3.out); (case side3 => exact tC (Kd.C_below HR0_5.out HB.out)); (case side4 => exact HC0_5.out); rintro e w7 ⟨rfl, hb⟩; refine ⟨_, rfl, ?_⟩; replace BK241 := tBb BK241 hb; replace HB := tBs HB hb; (try clear hb); (try clear hb2); (try clear hk); (try clear hi); obtain ⟨hcz8_0, hcz8_1, hcz8_2, hcz8_3, hcz8_4, hcz8_5, hfz8_0, hfz8_1, hfz8_2, hfz8_3, hfz8_4, hfz8_5⟩ := cells6 BK241.out) | ((with_reducible refine gate_callee (f := 38) rfl ?_); refine goesL_ (some 7) rfl rfl Tryd.func38 (by kernel_rfl) rfl #[.agg #[.int .i64 a0_0, .int .i64 a0_1, .bool a0_2, .slice A0_3 l0_3.length c0_3, .bool a0_4, .slice A0_5 l0_5.length c0_5]] rfl tq ?_; (with_reducible refine (spec_l41Text.calls k a0_0 a0_1 a0_2 _ _ l0_3 a0_4 _ _ l0_5 t243 _ ?side1 ?side2 ?side3 ?side4 A4.out).mono ?_); (case side1 => exact tC (Kd.C_below HR0_3.out HB.out)); (case side2 => exact HC0_3.out); (case side3 => exact tC (Kd.C_below HR0_5.out HB.out)); (case side4 => exact HC0_5.out); rintro e w9 ⟨rfl, hb⟩; refine ⟨_, rfl, ?_⟩; replace BK241 := tBb BK241 hb; replace HB := tBs HB hb; (try clear hb); (try clear hb2); (try clear hk); (try clear hi)))
  go_ret
  exact ⟨by first | rfl | (simp [errW_none, errW_some] <;> rfl) | (simp [*, errW_none, errW_some] <;> rfl), zb⟩
 ·replace c3 := Bool.eq_false_iff.mpr c3
  subst c3
  rw [if_neg (show ¬ (false = true) by decide)] at H
  obtain rfl := Option.some.inj H
  go_enter Tryd.func14, Tryd.ntmps14
  go_wp2_with (first | ((with_reducible refine gate_dst (N := 1) rfl ?_); refine box_event ?hg (N := 1) ?hd (cs := #[.int .i64 a0_0, .int .i64 a0_1, .bool a0_2, .slice A0_3 l0_3.length c0_3, .bool a0_4, .slice A0_5 l0_5.length c0_5]) (t := 25) ?hr ?_; (case hd => rfl); (case hg => rfl); (case hr => first | (go_simp; done) | (go_simp; rfl)); intro gb241 hg w10 hbox hb; have BK241 := Aside0.mk (hbox); have GW241 := tge HB hg; have GE241 := tge HB hg; replace HB := tBs HB hb; clear hb hbox hg; obtain ⟨hcz11_0, hcz11_1, hcz11_2, hcz11_3, hcz11_4, hcz11_5, hfz11_0, hfz11_1, hfz11_2, hfz11_3, hfz11_4, hfz11_5⟩ := cells6 BK241.out) | ((with_reducible refine gate_callee (f := 37) rfl ?_); refine goesL_ (some 4) rfl rfl Tryd.func37 (by kernel_rfl) rfl #[.agg #[.int .i64 a0_0, .int .i64 a0_1, .bool a0_2, .slice A0_3 l0_3.length c0_3, .bool a0_4, .slice A0_5 l0_5.length c0_5]] rfl tq ?_; (with_reducible refine (spec_RecordValid.calls k a0_0 a0_1 a0_2 _ _ l0_3 a0_4 _ _ l0_5 false _ ?side1 ?side2 ?side3 ?side4 A2.out).mono ?_); (case side1 => exact tC (Kd.C_below HR0_3.out HB.out)); (case side2 => exact HC0_3.out); (case side3 => exact tC (Kd.C_below HR0_5.out HB.out)); (case side4 => exact HC0_5.out); rintro e w12 ⟨rfl, hb⟩; refine ⟨_, rfl, ?_⟩; replace BK241 := tBb BK241 hb; replace HB := tBs HB hb; (try clear hb); (try clear hb2); (try clear hk); (try clear hi)))
  go_ret
  exact ⟨by first | rfl | (simp [errW_none, errW_some] <;> rfl) | (simp [*, errW_none, errW_some] <;> rfl), zb⟩

end Go.Proofs.YteoicjlhkaljbaaDoor.G

namespace Go.Proofs.YteoicjlhkaljbaaDoor.G
open Go.RowKit Go.Proofs.YteoicjlhkaljbaaDoorW.PrintWords Go.Proofs.YteoicjlhkaljbaaDoorW.PrintLast Go.Proofs.YteoicjlhkaljbaaDoorW.PrintMore
attribute [local go_sem] max2_int min2_int max_two min_two max_three min_three max_four min_four   -- for this text's walks alone
set_option linter.unusedVariables false
set_option linter.unusedSimpArgs false

def laws_FnRecordTextLast.f (k : Nat) (l0 : List Int) : Option (Bool) := if (l0.length : Int) > 1048576 then (some true) else ((spec_DrawRecordText.f k l0).bind fun bt244 => ((impl_RecordText.f k bt244.1 bt244.2.1 bt244.2.2.1 bt244.2.2.2.1 bt244.2.2.2.2.1 bt244.2.2.2.2.2).bind fun t255 => ((spec_RecordText.f k bt244.1 bt244.2.1 bt244.2.2.1 bt244.2.2.2.1 bt244.2.2.2.2.1 bt244.2.2.2.2.2).bind fun t256 => (if t255.toList = t256.toList then (if t256.toList = ([] : List UInt8) then (some (t255.toList == t256.toList)) else (if 0 ≤ (wrap64 ((t255.size : Int) - 1)) then (if (wrap64 ((t255.size : Int) - 1)) < (t255.size : Int) then (some (((bt t255 (wrap64 ((t255.size : Int) - 1))) == 45) == (!bt244.2.2.2.2.1))) else (none)) else (none))) else (some (t255.toList == t256.toList))))))
set_option maxHeartbeats 40000000 in
set_option maxRecDepth 100000 in
theorem laws_FnRecordTextLast.calls [ErrA] (k : Nat) (A0 : Option Addr) (c0 : Nat) (l0 : List Int) (r : Bool) (w : World) (hE : ErrOk [1] w) (hr0 : Kd.C (Kd.int .u8) w A0 l0.length l0) (hc0 : l0.length ≤ c0) (h : laws_FnRecordTextLast.f k l0 = some r) :
  Calls Tryd.prog 3 #[.slice A0 l0.length c0] w fun e w' => e = .returned (.bool r) ∧ Below w.heap.size w w' := by
 have HE := Aside0.mk hE
 clear hE
 have hu25 := Tryd.underlying25
 have HR0 := Aside0.mk hr0
 have HC0 := Aside0.mk hc0
 clear hr0 hc0
 have HB := Aside0.mk (Below.refl w.heap.size w)
 have H : (if (l0.length : Int) > 1048576 then (some true) else ((spec_DrawRecordText.f k l0).bind fun bt244 => ((impl_RecordText.f k bt244.1 bt244.2.1 bt244.2.2.1 bt244.2.2.2.1 bt244.2.2.2.2.1 bt244.2.2.2.2.2).bind fun t255 => ((spec_RecordText.f k bt244.1 bt244.2.1 bt244.2.2.1 bt244.2.2.2.1 bt244.2.2.2.2.1 bt244.2.2.2.2.2).bind fun t256 => (if t255.toList = t256.toList then (if t256.toList = ([] : List UInt8) then (some (t255.toList == t256.toList)) else (if 0 ≤ (wrap64 ((t255.size : Int) - 1)) then (if (wrap64 ((t255.size : Int) - 1)) < (t255.size : Int) then (some (((bt t255 (wrap64 ((t255.size : Int) - 1))) == 45) == (!bt244.2.2.2.2.1))) else (none)) else (none))) else (some (t255.toList == t256.toList))))))) = some r := h
 clear h
 by_cases c2 : (l0.length : Int) > 1048576
 ·rw [if_pos c2] at H
  have c2b0 : decide (1048576 < (l0.length : Int)) = true := decide_eq_true c2
  have c2b1 : decide (1048576 < l0.length) = true := decide_eq_true (by omega)
  clear c2
  obtain rfl := Option.some.inj H
  go_enter Tryd.func3, Tryd.ntmps3
  go_wp2
  repeat (go_quiet (fail); try go_wp2)
  all_goals go_ret
  all_goals exact ⟨by first | rfl | (simp [errW_none, errW_some] <;> rfl) | (simp [*, errW_none, errW_some] <;> rfl), zb⟩
 ·rw [if_neg c2] at H
  have c2b0 : decide (1048576 < (l0.length : Int)) = false := decide_eq_false c2
  have c2b1 : decide (1048576 < l0.length) = false := decide_eq_false (by omega)
  clear c2
  replace H := tbe H
  obtain ⟨⟨t244, t245, t246, t247, t250, t251⟩, A3, H⟩ := H
  dsimp only at H
  replace H := tbe H
  obtain ⟨t255, A4, H⟩ := H
  replace H := tbe H
  obtain ⟨t256, A5, H⟩ := H
  by_cases c6 : t255.toList = t256.toList
  ·rw [if_pos c6] at H
   have c6b0 : (t255.toList == t256.toList) = true := beq_iff_eq.mpr c6
   have c6b1 : (t255.toList != t256.toList) = false := bne_eq_false_iff_eq.mpr c6
   clear c6
   by_cases c7 : t256.toList = ([] : List UInt8)
   ·rw [if_pos c7] at H
    have c7b0 : (t256.toList == ([] : List UInt8)) = true := beq_iff_eq.mpr c7
    have c7b1 : (t256.toList != ([] : List UInt8)) = false := bne_eq_false_iff_eq.mpr c7
    clear c7
    obtain rfl := Option.some.inj H
    go_enter Tryd.func3, Tryd.ntmps3
    go_wp2_with (first | (go_at_call 12; (with_reducible refine (spec_DrawRecordText.calls k _ _ l0 t244 t245 t246 t247 t250 t251 _ ?side1 ?side2 A3.out).mono ?_); (case side1 => exact tC HR0.out); (case side2 => exact HC0.out); rintro e w8 ⟨v248, v252, rfl, ho0, ho1, hb⟩; have u_v248 := tsv Tryd.prog v248 ho0; have u_v252 := tsv Tryd.prog v252 ho1; have HO249 := tRl ho0 HB; have HO253 := tRl ho1 HB; replace HB := tBs HB hb; (try clear hb); (try clear hb2); (try clear hk); (try clear hi); (try clear ho0); (try clear ho1)) | ((with_reducible refine gate_dst (N := 3) rfl ?_); refine box_event ?hg (N := 3) ?hd (cs := #[.int .i64 0, .int .i64 0, .bool false, .slice none 0 0, .bool false, .slice none 0 0]) (t := 25) ?hr ?_; (case hd => rfl); (case hg => rfl); (case hr => first | (go_simp; done) | (go_simp; rfl)); intro gb254 hg w9 hbox hb; replace HO249 := tRb HO249 hb; replace HO253 := tRb HO253 hb; have BK254 := Aside0.mk (hbox); have GW254 := tge HB hg; have GE254 := tge HB hg; replace HB := tBs HB hb; clear hb hbox hg; obtain ⟨hcz10_0, hcz10_1, hcz10_2, hcz10_3, hcz10_4, hcz10_5, hfz10_0, hfz10_1, hfz10_2, hfz10_3, hfz10_4, hfz10_5⟩ := cells6 BK254.out; obtain ⟨Ao11, co11, eo11⟩ := Kd.R_slice HO249.out; subst eo11; obtain ⟨Ao12, co12, eo12⟩ := Kd.R_slice HO253.out; subst eo12) | (go_at_call 13; (with_reducible refine (impl_RecordText.calls (hE := ?sideE) k t244 t245 t246 _ _ t247 t250 _ _ t251 t255 _ ?side1 ?side2 ?side3 ?side4 A4.out).mono ?_); (case sideE => exact ErrOk.below (HE.out.sub (by decide)) zb); (case side1 => refine (Kd.R_reads' (e := 3) (base := w.heap.size) (ok := fun k_ => some k_ ≠ (.slice Ao12 t251.length co12 : Value).ownBlock) (n := t247.length) (c := co11) ?_).2.2; exact (tRt HO249.out BK254.out)); (case side2 => exact (Kd.R_reads' HO249.out).2.1); (case side3 => refine (Kd.R_reads' (e := 3) (base := w.heap.size) (ok := fun k_ => some k_ ≠ (.slice Ao11 t247.length co11 : Value).ownBlock) (n := t251.length) (c := co12) ?_).2.2; exact (tRt HO253.out BK254.out)); (case side4 => exact (Kd.R_reads' HO253.out).2.1); rintro e w13 ⟨rfl, hb⟩; replace HO249 := Aside0.mk (Kd.R_below (tRt HO249.out BK254.out) hb); replace HO253 := Aside0.mk (Kd.R_below (tRt HO253.out BK254.out) hb); replace BK254 := tBp (o' := .cells #[.int .i64 t244, .int .i64 t245, .bool t246, .slice Ao11 t247.length co11, .bool t250, .slice Ao12 t251.length co12] 25 (0, 0)) BK254 hb; replace HB := tBs HB hb; (try clear hb); (try clear hb2); (try clear hk); (try clear hi); obtain ⟨hcz14_0, hcz14_1, hcz14_2, hcz14_3, hcz14_4, hcz14_5, hfz14_0, hfz14_1, hfz14_2, hfz14_3, hfz14_4, hfz14_5⟩ := cells6 BK254.out) | (go_at_call 14; (with_reducible refine (spec_RecordText.calls k t244 t245 t246 _ _ t247 t250 _ _ t251 t256 _ ?side1 ?side2 ?side3 ?side4 A5.out).mono ?_); (case side1 => repeat (first | exact (Kd.R_reads' HO249.out).2.2 | (with_reducible refine Kd.C_alloc ?_ _) | (with_reducible refine Kd.C_drewN ?_ _) | (with_reducible refine Kd.C_drew ?_))); (case side2 => exact (Kd.R_reads' HO249.out).2.1); (case side3 => repeat (first | exact (Kd.R_reads' HO253.out).2.2 | (with_reducible refine Kd.C_alloc ?_ _) | (with_reducible refine Kd.C_drewN ?_ _) | (with_reducible refine Kd.C_drew ?_))); (case side4 => exact (Kd.R_reads' HO253.out).2.1); rintro e w15 ⟨rfl, hb⟩; replace HO249 := tRb HO249 hb; replace HO253 := tRb HO253 hb; replace BK254 := tBb BK254 hb; replace HB := tBs HB hb; (try clear hb); (try clear hb2); (try clear hk); (try clear hi)))
    repeat (go_quiet (first | (go_at_call 12; (with_reducible refine (spec_DrawRecordText.calls k _ _ l0 t244 t245 t246 t247 t250 t251 _ ?side1 ?side2 A3.out).mono ?_); (case side1 => exact tC HR0.out); (case side2 => exact HC0.out); rintro e w8 ⟨v248, v252, rfl, ho0, ho1, hb⟩; have u_v248 := tsv Tryd.prog v248 ho0; have u_v252 := tsv Tryd.prog v252 ho1; have HO249 := tRl ho0 HB; have HO253 := tRl ho1 HB; replace HB := tBs HB hb; (try clear hb); (try clear hb2); (try clear hk); (try clear hi); (try clear ho0); (try clear ho1)) | ((with_reducible refine gate_dst (N := 3) rfl ?_); refine box_event ?hg (N := 3) ?hd (cs := #[.int .i64 0, .int .i64 0, .bool false, .slice none 0 0, .bool false, .slice none 0 0]) (t := 25) ?hr ?_; (case hd => rfl); (case hg => rfl); (case hr => first | (go_simp; done) | (go_simp; rfl)); intro gb254 hg w9 hbox hb; replace HO249 := tRb HO249 hb; replace HO253 := tRb HO253 hb; have BK254 := Aside0.mk (hbox); have GW254 := tge HB hg; have GE254 := tge HB hg; replace HB := tBs HB hb; clear hb hbox hg; obtain ⟨hcz10_0, hcz10_1, hcz10_2, hcz10_3, hcz10_4, hcz10_5, hfz10_0, hfz10_1, hfz10_2, hfz10_3, hfz10_4, hfz10_5⟩ := cells6 BK254.out; obtain ⟨Ao11, co11, eo11⟩ := Kd.R_slice HO249.out; subst eo11; obtain ⟨Ao12, co12, eo12⟩ := Kd.R_slice HO253.out; subst eo12) | (go_at_call 13; (with_reducible refine (impl_RecordText.calls (hE := ?sideE) k t244 t245 t246 _ _ t247 t250 _ _ t251 t255 _ ?side1 ?side2 ?side3 ?side4 A4.out).mono ?_); (case sideE => exact ErrOk.below (HE.out.sub (by decide)) zb); (case side1 => refine (Kd.R_reads' (e := 3) (base := w.heap.size) (ok := fun k_ => some k_ ≠ (.slice Ao12 t251.length co12 : Value).ownBlock) (n := t247.length) (c := co11) ?_).2.2; exact (tRt HO249.out BK254.out)); (case side2 => exact (Kd.R_reads' HO249.out).2.1); (case side3 => refine (Kd.R_reads' (e := 3) (base := w.heap.size) (ok := fun k_ => some k_ ≠ (.slice Ao11 t247.length co11 : Value).ownBlock) (n := t251.length) (c := co12) ?_).2.2; exact (tRt HO253.out BK254.out)); (case side4 => exact (Kd.R_reads' HO253.out).2.1); rintro e w13 ⟨rfl, hb⟩; replace HO249 := Aside0.mk (Kd.R_below (tRt HO249.out BK254.out) hb); replace HO253 := Aside0.mk (Kd.R_below (tRt HO253.out BK254.out) hb); replace BK254 := tBp (o' := .cells #[.int .i64 t244, .int .i64 t245, .bool t246, .slice Ao11 t247.length co11, .bool t250, .slice Ao12 t251.length co12] 25 (0, 0)) BK254 hb; replace HB := tBs HB hb; (try clear hb); (try clear hb2); (try clear hk); (try clear hi); obtain ⟨hcz14_0, hcz14_1, hcz14_2, hcz14_3, hcz14_4, hcz14_5, hfz14_0, hfz14_1, hfz14_2, hfz14_3, hfz14_4, hfz14_5⟩ := cells6 BK254.out) | (go_at_call 14; (with_reducible refine (spec_RecordText.calls k t244 t245 t246 _ _ t247 t250 _ _ t251 t256 _ ?side1 ?side2 ?side3 ?side4 A5.out).mono ?_); (case side1 => repeat (first | exact (Kd.R_reads' HO249.out).2.2 | (with_reducible refine Kd.C_alloc ?_ _) | (with_reducible refine Kd.C_drewN ?_ _) | (with_reducible refine Kd.C_drew ?_))); (case side2 => exact (Kd.R_reads' HO249.out).2.1); (case side3 => repeat (first | exact (Kd.R_reads' HO253.out).2.2 | (with_reducible refine Kd.C_alloc ?_ _) | (with_reducible refine Kd.C_drewN ?_ _) | (with_reducible refine Kd.C_drew ?_))); (case side4 => exact (Kd.R_reads' HO253.out).2.1); rintro e w15 ⟨rfl, hb⟩; replace HO249 := tRb HO249 hb; replace HO253 := tRb HO253 hb; replace BK254 := tBb BK254 hb; replace HB := tBs HB hb; (try clear hb); (try clear hb2); (try clear hk); (try clear hi))); try go_wp2_with (first | (go_at_call 12; (with_reducible refine (spec_DrawRecordText.calls k _ _ l0 t244 t245 t246 t247 t250 t251 _ ?side1 ?side2 A3.out).mono ?_); (case side1 => exact tC HR0.out); (case side2 => exact HC0.out); rintro e w8 ⟨v248, v252, rfl, ho0, ho1, hb⟩; have u_v248 := tsv Tryd.prog v248 ho0; have u_v252 := tsv Tryd.prog v252 ho1; have HO249 := tRl ho0 HB; have HO253 := tRl ho1 HB; replace HB := tBs HB hb; (try clear hb); (try clear hb2); (try clear hk); (try clear hi); (try clear ho0); (try clear ho1)) | ((with_reducible refine gate_dst (N := 3) rfl ?_); refine box_event ?hg (N := 3) ?hd (cs := #[.int .i64 0, .int .i64 0, .bool false, .slice none 0 0, .bool false, .slice none 0 0]) (t := 25) ?hr ?_; (case hd => rfl); (case hg => rfl); (case hr => first | (go_simp; done) | (go_simp; rfl)); intro gb254 hg w9 hbox hb; replace HO249 := tRb HO249 hb; replace HO253 := tRb HO253 hb; have BK254 := Aside0.mk (hbox); have GW254 := tge HB hg; have GE254 := tge HB hg; replace HB := tBs HB hb; clear hb hbox hg; obtain ⟨hcz10_0, hcz10_1, hcz10_2, hcz10_3, hcz10_4, hcz10_5, hfz10_0, hfz10_1, hfz10_2, hfz10_3, hfz10_4, hfz10_5⟩ := cells6 BK254.out; obtain ⟨Ao11, co11, eo11⟩ := Kd.R_slice HO249.out; subst eo11; obtain ⟨Ao12, co12, eo12⟩ := Kd.R_slice HO253.out; subst eo12) | (go_at_call 13; (with_reducible refine (impl_RecordText.calls (hE := ?sideE) k t244 t245 t246 _ _ t247 t250 _ _ t251 t255 _ ?side1 ?side2 ?side3 ?side4 A4.out).mono ?_); (case sideE => exact ErrOk.below (HE.out.sub (by decide)) zb); (case side1 => refine (Kd.R_reads' (e := 3) (base := w.heap.size) (ok := fun k_ => some k_ ≠ (.slice Ao12 t251.length co12 : Value).ownBlock) (n := t247.length) (c := co11) ?_).2.2; exact (tRt HO249.out BK254.out)); (case side2 => exact (Kd.R_reads' HO249.out).2.1); (case side3 => refine (Kd.R_reads' (e := 3) (base := w.heap.size) (ok := fun k_ => some k_ ≠ (.slice Ao11 t247.length co11 : Value).ownBlock) (n := t251.length) (c := co12) ?_).2.2; exact (tRt HO253.out BK254.out)); (case side4 => exact (Kd.R_reads' HO253.out).2.1); rintro e w13 ⟨rfl, hb⟩; replace HO249 := Aside0.mk (Kd.R_below (tRt HO249.out BK254.out) hb); replace HO253 := Aside0.mk (Kd.R_below (tRt HO253.out BK254.out) hb); replace BK254 := tBp (o' := .cells #[.int .i64 t244, .int .i64 t245, .bool t246, .slice Ao11 t247.length co11, .bool t250, .slice Ao12 t251.length co12] 25 (0, 0)) BK254 hb; replace HB := tBs HB hb; (try clear hb); (try clear hb2); (try clear hk); (try clear hi); obtain ⟨hcz14_0, hcz14_1, hcz14_2, hcz14_3, hcz14_4, hcz14_5, hfz14_0, hfz14_1, hfz14_2, hfz14_3, hfz14_4, hfz14_5⟩ := cells6 BK254.out) | (go_at_call 14; (with_reducible refine (spec_RecordText.calls k t244 t245 t246 _ _ t247 t250 _ _ t251 t256 _ ?side1 ?side2 ?side3 ?side4 A5.out).mono ?_); (case side1 => repeat (first | exact (Kd.R_reads' HO249.out).2.2 | (with_reducible refine Kd.C_alloc ?_ _) | (with_reducible refine Kd.C_drewN ?_ _) | (with_reducible refine Kd.C_drew ?_))); (case side2 => exact (Kd.R_reads' HO249.out).2.1); (case side3 => repeat (first | exact (Kd.R_reads' HO253.out).2.2 | (with_reducible refine Kd.C_alloc ?_ _) | (with_reducible refine Kd.C_drewN ?_ _) | (with_reducible refine Kd.C_drew ?_))); (case side4 => exact (Kd.R_reads' HO253.out).2.1); rintro e w15 ⟨rfl, hb⟩; replace HO249 := tRb HO249 hb; replace HO253 := tRb HO253 hb; replace BK254 := tBb BK254 hb; replace HB := tBs HB hb; (try clear hb); (try clear hb2); (try clear hk); (try clear hi))))
    all_goals go_ret
    all_goals exact ⟨by first | rfl | (simp [errW_none, errW_some] <;> rfl) | (simp [*, errW_none, errW_some] <;> rfl), zb⟩
   ·rw [if_neg c7] at H
    have c7b0 : (t256.toList == ([] : List UInt8)) = false := beq_eq_false_iff_ne.mpr c7
    have c7b1 : (t256.toList != ([] : List UInt8)) = true := bne_iff_ne.mpr c7
    obtain ⟨ji16, hji16⟩ : ∃ j_ : Int, (wrap64 ((t255.size : Int) - 1)) = j_ := ⟨_, rfl⟩
    replace H : (if 0 ≤ (ji16) then (if (ji16) < (t255.size : Int) then (some (((bt t255 (ji16)) == 45) == (!t250))) else (none)) else (none)) = some r := by first | (rw [hji16] at H; exact H) | (simp only [hji16] at H ⊢; exact H)
    (try rw [hji16] at A3)
    (try rw [hji16] at A4)
    (try rw [hji16] at A5)
    have hji16w : (IntKind.i64.wrap ((t255.size : Int) - 1)) = ji16 := (i64_w _).trans hji16
    by_cases c17 : 0 ≤ (ji16)
    ·rw [if_pos c17] at H
     have c17b0 : decide (0 ≤ (ji16)) = true := decide_eq_true c17
     clear c17
     by_cases c18 : (ji16) < (t255.size : Int)
     ·rw [if_pos c18] at H
      have c18b0 : decide ((ji16) < (t255.size : Int)) = true := decide_eq_true c18
      clear c18
      obtain rfl := Option.some.inj H
      go_enter Tryd.func3, Tryd.ntmps3
      go_wp2_with (first | (go_at_call 12; (with_reducible refine (spec_DrawRecordText.calls k _ _ l0 t244 t245 t246 t247 t250 t251 _ ?side1 ?side2 A3.out).mono ?_); (case side1 => exact tC HR0.out); (case side2 => exact HC0.out); rintro e w20 ⟨v248, v252, rfl, ho0, ho1, hb⟩; have u_v248 := tsv Tryd.prog v248 ho0; have u_v252 := tsv Tryd.prog v252 ho1; have HO249 := tRl ho0 HB; have HO253 := tRl ho1 HB; replace HB := tBs HB hb; (try clear hb); (try clear hb2); (try clear hk); (try clear hi); (try clear ho0); (try clear ho1)) | ((with_reducible refine gate_dst (N := 3) rfl ?_); refine box_event ?hg (N := 3) ?hd (cs := #[.int .i64 0, .int .i64 0, .bool false, .slice none 0 0, .bool false, .slice none 0 0]) (t := 25) ?hr ?_; (case hd => rfl); (case hg => rfl); (case hr => first | (go_simp; done) | (go_simp; rfl)); intro gb254 hg w21 hbox hb; replace HO249 := tRb HO249 hb; replace HO253 := tRb HO253 hb; have BK254 := Aside0.mk (hbox); have GW254 := tge HB hg; have GE254 := tge HB hg; replace HB := tBs HB hb; clear hb hbox hg; obtain ⟨hcz22_0, hcz22_1, hcz22_2, hcz22_3, hcz22_4, hcz22_5, hfz22_0, hfz22_1, hfz22_2, hfz22_3, hfz22_4, hfz22_5⟩ := cells6 BK254.out; obtain ⟨Ao23, co23, eo23⟩ := Kd.R_slice HO249.out; subst eo23; obtain ⟨Ao24, co24, eo24⟩ := Kd.R_slice HO253.out; subst eo24) | (go_at_call 13; (with_reducible refine (impl_RecordText.calls (hE := ?sideE) k t244 t245 t246 _ _ t247 t250 _ _ t251 t255 _ ?side1 ?side2 ?side3 ?side4 A4.out).mono ?_); (case sideE => exact ErrOk.below (HE.out.sub (by decide)) zb); (case side1 => refine (Kd.R_reads' (e := 3) (base := w.heap.size) (ok := fun k_ => some k_ ≠ (.slice Ao24 t251.length co24 : Value).ownBlock) (n := t247.length) (c := co23) ?_).2.2; exact (tRt HO249.out BK254.out)); (case side2 => exact (Kd.R_reads' HO249.out).2.1); (case side3 => refine (Kd.R_reads' (e := 3) (base := w.heap.size) (ok := fun k_ => some k_ ≠ (.slice Ao23 t247.length co23 : Value).ownBlock) (n := t251.length) (c := co24) ?_).2.2; exact (tRt HO253.out BK254.out)); (case side4 => exact (Kd.R_reads' HO253.out).2.1); rintro e w25 ⟨rfl, hb⟩; replace HO249 := Aside0.mk (Kd.R_below (tRt HO249.out BK254.out) hb); replace HO253 := Aside0.mk (Kd.R_below (tRt HO253.out BK254.out) hb); replace BK254 := tBp (o' := .cells #[.int .i64 t244, .int .i64 t245, .bool t246, .slice Ao23 t247.length co23, .bool t250, .slice Ao24 t251.length co24] 25 (0, 0)) BK254 hb; replace HB := tBs HB hb; (try clear hb); (try clear hb2); (try clear hk); (try clear hi); obtain ⟨hcz26_0, hcz26_1, hcz26_2, hcz26_3, hcz26_4, hcz26_5, hfz26_0, hfz26_1, hfz26_2, hfz26_3, hfz26_4, hfz26_5⟩ := cells6 BK254.out) | (go_at_call 14; (with_reducible refine (spec_RecordText.calls k t244 t245 t246 _ _ t247 t250 _ _ t251 t256 _ ?side1 ?side2 ?side3 ?side4 A5.out).mono ?_); (case side1 => repeat (first | exact (Kd.R_reads' HO249.out).2.2 | (with_reducible refine Kd.C_alloc ?_ _) | (with_reducible refine Kd.C_drewN ?_ _) | (with_reducible refine Kd.C_drew ?_))); (case side2 => exact (Kd.R_reads' HO249.out).2.1); (case side3 => repeat (first | exact (Kd.R_reads' HO253.out).2.2 | (with_reducible refine Kd.C_alloc ?_ _) | (with_reducible refine Kd.C_drewN ?_ _) | (with_reducible refine Kd.C_drew ?_))); (case side4 => exact (Kd.R_reads' HO253.out).2.1); rintro e w27 ⟨rfl, hb⟩; replace HO249 := tRb HO249 hb; replace HO253 := tRb HO253 hb; replace BK254 := tBb BK254 hb; replace HB := tBs HB hb; (try clear hb); (try clear hb2); (try clear hk); (try clear hi); have p19 : 0 ≤ ((ji16) : Int) := td; have q19 : (ji16) < (t255.size : Int) := td; have hx19 := bt_at t255 (ji16); replace p19 := eq_true p19; replace q19 := eq_true q19; obtain ⟨hcz28_0, hcz28_1, hcz28_2, hcz28_3, hcz28_4, hcz28_5, hfz28_0, hfz28_1, hfz28_2, hfz28_3, hfz28_4, hfz28_5⟩ := cells6 BK254.out))
      repeat (go_quiet (first | (go_at_call 12; (with_reducible refine (spec_DrawRecordText.calls k _ _ l0 t244 t245 t246 t247 t250 t251 _ ?side1 ?side2 A3.out).mono ?_); (case side1 => exact tC HR0.out); (case side2 => exact HC0.out); rintro e w20 ⟨v248, v252, rfl, ho0, ho1, hb⟩; have u_v248 := tsv Tryd.prog v248 ho0; have u_v252 := tsv Tryd.prog v252 ho1; have HO249 := tRl ho0 HB; have HO253 := tRl ho1 HB; replace HB := tBs HB hb; (try clear hb); (try clear hb2); (try clear hk); (try clear hi); (try clear ho0); (try clear ho1)) | ((with_reducible refine gate_dst (N := 3) rfl ?_); refine box_event ?hg (N := 3) ?hd (cs := #[.int .i64 0, .int .i64 0, .bool false, .slice none 0 0, .bool false, .slice none 0 0]) (t := 25) ?hr ?_; (case hd => rfl); (case hg => rfl); (case hr => first | (go_simp; done) | (go_simp; rfl)); intro gb254 hg w21 hbox hb; replace HO249 := tRb HO249 hb; replace HO253 := tRb HO253 hb; have BK254 := Aside0.mk (hbox); have GW254 := tge HB hg; have GE254 := tge HB hg; replace HB := tBs HB hb; clear hb hbox hg; obtain ⟨hcz22_0, hcz22_1, hcz22_2, hcz22_3, hcz22_4, hcz22_5, hfz22_0, hfz22_1, hfz22_2, hfz22_3, hfz22_4, hfz22_5⟩ := cells6 BK254.out; obtain ⟨Ao23, co23, eo23⟩ := Kd.R_slice HO249.out; subst eo23; obtain ⟨Ao24, co24, eo24⟩ := Kd.R_slice HO253.out; subst eo24) | (go_at_call 13; (with_reducible refine (impl_RecordText.calls (hE := ?sideE) k t244 t245 t246 _ _ t247 t250 _ _ t251 t255 _ ?side1 ?side2 ?side3 ?side4 A4.out).mono ?_); (case sideE => exact ErrOk.below (HE.out.sub (by decide)) zb); (case side1 => refine (Kd.R_reads' (e := 3) (base := w.heap.size) (ok := fun k_ => some k_ ≠ (.slice Ao24 t251.length co24 : Value).ownBlock) (n := t247.length) (c := co23) ?_).2.2; exact (tRt HO249.out BK254.out)); (case side2 => exact (Kd.R_reads' HO249.out).2.1); (case side3 => refine (Kd.R_reads' (e := 3) (base := w.heap.size) (ok := fun k_ => some k_ ≠ (.slice Ao23 t247.length co23 : Value).ownBlock) (n := t251.length) (c := co24) ?_).2.2; exact (tRt HO253.out BK254.out)); (case side4 => exact (Kd.R_reads' HO253.out).2.1); rintro e w25 ⟨rfl, hb⟩; replace HO249 := Aside0.mk (Kd.R_below (tRt HO249.out BK254.out) hb); replace HO253 := Aside0.mk (Kd.R_below (tRt HO253.out BK254.out) hb); replace BK254 := tBp (o' := .cells #[.int .i64 t244, .int .i64 t245, .bool t246, .slice Ao23 t247.length co23, .bool t250, .slice Ao24 t251.length co24] 25 (0, 0)) BK254 hb; replace HB := tBs HB hb; (try clear hb); (try clear hb2); (try clear hk); (try clear hi); obtain ⟨hcz26_0, hcz26_1, hcz26_2, hcz26_3, hcz26_4, hcz26_5, hfz26_0, hfz26_1, hfz26_2, hfz26_3, hfz26_4, hfz26_5⟩ := cells6 BK254.out) | (go_at_call 14; (with_reducible refine (spec_RecordText.calls k t244 t245 t246 _ _ t247 t250 _ _ t251 t256 _ ?side1 ?side2 ?side3 ?side4 A5.out).mono ?_); (case side1 => repeat (first | exact (Kd.R_reads' HO249.out).2.2 | (with_reducible refine Kd.C_alloc ?_ _) | (with_reducible refine Kd.C_drewN ?_ _) | (with_reducible refine Kd.C_drew ?_))); (case side2 => exact (Kd.R_reads' HO249.out).2.1); (case side3 => repeat (first | exact (Kd.R_reads' HO253.out).2.2 | (with_reducible refine Kd.C_alloc ?_ _) | (with_reducible refine Kd.C_drewN ?_ _) | (with_reducible refine Kd.C_drew ?_))); (case side4 => exact (Kd.R_reads' HO253.out).2.1); rintro e w27 ⟨rfl, hb⟩; replace HO249 := tRb HO249 hb; replace HO253 := tRb HO253 hb; replace BK254 := tBb BK254 hb; replace HB := tBs HB hb; (try clear hb); (try clear hb2); (try clear hk); (try clear hi); have p19 : 0 ≤ ((ji16) : Int) := td; have q19 : (ji16) < (t255.size : Int) := td; have hx19 := bt_at t255 (ji16); replace p19 := eq_true p19; replace q19 := eq_true q19; obtain ⟨hcz28_0, hcz28_1, hcz28_2, hcz28_3, hcz28_4, hcz28_5, hfz28_0, hfz28_1, hfz28_2, hfz28_3, hfz28_4, hfz28_5⟩ := cells6 BK254.out)); try go_wp2_with (first | (go_at_call 12; (with_reducible refine (spec_DrawRecordText.calls k _ _ l0 t244 t245 t246 t247 t250 t251 _ ?side1 ?side2 A3.out).mono ?_); (case side1 => exact tC HR0.out); (case side2 => exact HC0.out); rintro e w20 ⟨v248, v252, rfl, ho0, ho1, hb⟩; have u_v248 := tsv Tryd.prog v248 ho0; have u_v252 := tsv Tryd.prog v252 ho1; have HO249 := tRl ho0 HB; have HO253 := tRl ho1 HB; replace HB := tBs HB hb; (try clear hb); (try clear hb2); (try clear hk); (try clear hi); (try clear ho0); (try clear ho1)) | ((with_reducible refine gate_dst (N := 3) rfl ?_); refine box_event ?hg (N := 3) ?hd (cs := #[.int .i64 0, .int .i64 0, .bool false, .slice none 0 0, .bool false, .slice none 0 0]) (t := 25) ?hr ?_; (case hd => rfl); (case hg => rfl); (case hr => first | (go_simp; done) | (go_simp; rfl)); intro gb254 hg w21 hbox hb; replace HO249 := tRb HO249 hb; replace HO253 := tRb HO253 hb; have BK254 := Aside0.mk (hbox); have GW254 := tge HB hg; have GE254 := tge HB hg; replace HB := tBs HB hb; clear hb hbox hg; obtain ⟨hcz22_0, hcz22_1, hcz22_2, hcz22_3, hcz22_4, hcz22_5, hfz22_0, hfz22_1, hfz22_2, hfz22_3, hfz22_4, hfz22_5⟩ := cells6 BK254.out; obtain ⟨Ao23, co23, eo23⟩ := Kd.R_slice HO249.out; subst eo23; obtain ⟨Ao24, co24, eo24⟩ := Kd.R_slice HO253.out; subst eo24) | (go_at_call 13; (with_reducible refine (impl_RecordText.calls (hE := ?sideE) k t244 t245 t246 _ _ t247 t250 _ _ t251 t255 _ ?side1 ?side2 ?side3 ?side4 A4.out).mono ?_); (case sideE => exact ErrOk.below (HE.out.sub (by decide)) zb); (case side1 => refine (Kd.R_reads' (e := 3) (base := w.heap.size) (ok := fun k_ => some k_ ≠ (.slice Ao24 t251.length co24 : Value).ownBlock) (n := t247.length) (c := co23) ?_).2.2; exact (tRt HO249.out BK254.out)); (case side2 => exact (Kd.R_reads' HO249.out).2.1); (case side3 => refine (Kd.R_reads' (e := 3) (base := w.heap.size) (ok := fun k_ => some k_ ≠ (.slice Ao23 t247.length co23 : Value).ownBlock) (n := t251.length) (c := co24) ?_).2.2; exact (tRt HO253.out BK254.out)); (case side4 => exact (Kd.R_reads' HO253.out).2.1); rintro e w25 ⟨rfl, hb⟩; replace HO249 := Aside0.mk (Kd.R_below (tRt HO249.out BK254.out) hb); replace HO253 := Aside0.mk (Kd.R_below (tRt HO253.out BK254.out) hb); replace BK254 := tBp (o' := .cells #[.int .i64 t244, .int .i64 t245, .bool t246, .slice Ao23 t247.length co23, .bool t250, .slice Ao24 t251.length co24] 25 (0, 0)) BK254 hb; replace HB := tBs HB hb; (try clear hb); (try clear hb2); (try clear hk); (try clear hi); obtain ⟨hcz26_0, hcz26_1, hcz26_2, hcz26_3, hcz26_4, hcz26_5, hfz26_0, hfz26_1, hfz26_2, hfz26_3, hfz26_4, hfz26_5⟩ := cells6 BK254.out) | (go_at_call 14; (with_reducible refine (spec_RecordText.calls k t244 t245 t246 _ _ t247 t250 _ _ t251 t256 _ ?side1 ?side2 ?side3 ?side4 A5.out).mono ?_); (case side1 => repeat (first | exact (Kd.R_reads' HO249.out).2.2 | (with_reducible refine Kd.C_alloc ?_ _) | (with_reducible refine Kd.C_drewN ?_ _) | (with_reducible refine Kd.C_drew ?_))); (case side2 => exact (Kd.R_reads' HO249.out).2.1); (case side3 => repeat (first | exact (Kd.R_reads' HO253.out).2.2 | (with_reducible refine Kd.C_alloc ?_ _) | (with_reducible refine Kd.C_drewN ?_ _) | (with_reducible refine Kd.C_drew ?_))); (case side4 => exact (Kd.R_reads' HO253.out).2.1); rintro e w27 ⟨rfl, hb⟩; replace HO249 := tRb HO249 hb; replace HO253 := tRb HO253 hb; replace BK254 := tBb BK254 hb; replace HB := tBs HB hb; (try clear hb); (try clear hb2); (try clear hk); (try clear hi); have p19 : 0 ≤ ((ji16) : Int) := td; have q19 : (ji16) < (t255.size : Int) := td; have hx19 := bt_at t255 (ji16); replace p19 := eq_true p19; replace q19 := eq_true q19; obtain ⟨hcz28_0, hcz28_1, hcz28_2, hcz28_3, hcz28_4, hcz28_5, hfz28_0, hfz28_1, hfz28_2, hfz28_3, hfz28_4, hfz28_5⟩ := cells6 BK254.out)))
      all_goals go_ret
      all_goals exact ⟨by first | rfl | (simp [errW_none, errW_some] <;> rfl) | (simp only [← hji16]; first | rfl | (simp [errW_none, errW_some] <;> rfl)) | (simp [*, errW_none, errW_some] <;> rfl), zb⟩
     ·rw [if_neg c18] at H
      exact absurd H (by simp)
    ·rw [if_neg c17] at H
     exact absurd H (by simp)
  ·rw [if_neg c6] at H
   have c6b0 : (t255.toList == t256.toList) = false := beq_eq_false_iff_ne.mpr c6
   have c6b1 : (t255.toList != t256.toList) = true := bne_iff_ne.mpr c6
   obtain rfl := Option.some.inj H
   go_enter Tryd.func3, Tryd.ntmps3
   go_wp2_with (first | (go_at_call 12; (with_reducible refine (spec_DrawRecordText.calls k _ _ l0 t244 t245 t246 t247 t250 t251 _ ?side1 ?side2 A3.out).mono ?_); (case side1 => exact tC HR0.out); (case side2 => exact HC0.out); rintro e w29 ⟨v248, v252, rfl, ho0, ho1, hb⟩; have u_v248 := tsv Tryd.prog v248 ho0; have u_v252 := tsv Tryd.prog v252 ho1; have HO249 := tRl ho0 HB; have HO253 := tRl ho1 HB; replace HB := tBs HB hb; (try clear hb); (try clear hb2); (try clear hk); (try clear hi); (try clear ho0); (try clear ho1)) | ((with_reducible refine gate_dst (N := 3) rfl ?_); refine box_event ?hg (N := 3) ?hd (cs := #[.int .i64 0, .int .i64 0, .bool false, .slice none 0 0, .bool false, .slice none 0 0]) (t := 25) ?hr ?_; (case hd => rfl); (case hg => rfl); (case hr => first | (go_simp; done) | (go_simp; rfl)); intro gb254 hg w30 hbox hb; replace HO249 := tRb HO249 hb; replace HO253 := tRb HO253 hb; have BK254 := Aside0.mk (hbox); have GW254 := tge HB hg; have GE254 := tge HB hg; replace HB := tBs HB hb; clear hb hbox hg; obtain ⟨hcz31_0, hcz31_1, hcz31_2, hcz31_3, hcz31_4, hcz31_5, hfz31_0, hfz31_1, hfz31_2, hfz31_3, hfz31_4, hfz31_5⟩ := cells6 BK254.out; obtain ⟨Ao32, co32, eo32⟩ := Kd.R_slice HO249.out; subst eo32; obtain ⟨Ao33, co33, eo33⟩ := Kd.R_slice HO253.out; subst eo33) | (go_at_call 13; (with_reducible refine (impl_RecordText.calls (hE := ?sideE) k t244 t245 t246 _ _ t247 t250 _ _ t251 t255 _ ?side1 ?side2 ?side3 ?side4 A4.out).mono ?_); (case sideE => exact ErrOk.below (HE.out.sub (by decide)) zb); (case side1 => refine (Kd.R_reads' (e := 3) (base := w.heap.size) (ok := fun k_ => some k_ ≠ (.slice Ao33 t251.length co33 : Value).ownBlock) (n := t247.length) (c := co32) ?_).2.2; exact (tRt HO249.out BK254.out)); (case side2 => exact (Kd.R_reads' HO249.out).2.1); (case side3 => refine (Kd.R_reads' (e := 3) (base := w.heap.size) (ok := fun k_ => some k_ ≠ (.slice Ao32 t247.length co32 : Value).ownBlock) (n := t251.length) (c := co33) ?_).2.2; exact (tRt HO253.out BK254.out)); (case side4 => exact (Kd.R_reads' HO253.out).2.1); rintro e w34 ⟨rfl, hb⟩; replace HO249 := Aside0.mk (Kd.R_below (tRt HO249.out BK254.out) hb); replace HO253 := Aside0.mk (Kd.R_below (tRt HO253.out BK254.out) hb); replace BK254 := tBp (o' := .cells #[.int .i64 t244, .int .i64 t245, .bool t246, .slice Ao32 t247.length co32, .bool t250, .slice Ao33 t251.length co33] 25 (0, 0)) BK254 hb; replace HB := tBs HB hb; (try clear hb); (try clear hb2); (try clear hk); (try clear hi); obtain ⟨hcz35_0, hcz35_1, hcz35_2, hcz35_3, hcz35_4, hcz35_5, hfz35_0, hfz35_1, hfz35_2, hfz35_3, hfz35_4, hfz35_5⟩ := cells6 BK254.out) | (go_at_call 14; (with_reducible refine (spec_RecordText.calls k t244 t245 t246 _ _ t247 t250 _ _ t251 t256 _ ?side1 ?side2 ?side3 ?side4 A5.out).mono ?_); (case side1 => repeat (first | exact (Kd.R_reads' HO249.out).2.2 | (with_reducible refine Kd.C_alloc ?_ _) | (with_reducible refine Kd.C_drewN ?_ _) | (with_reducible refine Kd.C_drew ?_))); (case side2 => exact (Kd.R_reads' HO249.out).2.1); (case side3 => repeat (first | exact (Kd.R_reads' HO253.out).2.2 | (with_reducible refine Kd.C_alloc ?_ _) | (with_reducible refine Kd.C_drewN ?_ _) | (with_reducible refine Kd.C_drew ?_))); (case side4 => exact (Kd.R_reads' HO253.out).2.1); rintro e w36 ⟨rfl, hb⟩; replace HO249 := tRb HO249 hb; replace HO253 := tRb HO253 hb; replace BK254 := tBb BK254 hb; replace HB := tBs HB hb; (try clear hb); (try clear hb2); (try clear hk); (try clear hi)))
   repeat (go_quiet (first | (go_at_call 12; (with_reducible refine (spec_DrawRecordText.calls k _ _ l0 t244 t245 t246 t247 t250 t251 _ ?side1 ?side2 A3.out).mono ?_); (case side1 => exact tC HR0.out); (case side2 => exact HC0.out); rintro e w29 ⟨v248, v252, rfl, ho0, ho1, hb⟩; have u_v248 := tsv Tryd.prog v248 ho0; have u_v252 := tsv Tryd.prog v252 ho1; have HO249 := tRl ho0 HB; have HO253 := tRl ho1 HB; replace HB := tBs HB hb; (try clear hb); (try clear hb2); (try clear hk); (try clear hi); (try clear ho0); (try clear ho1)) | ((with_reducible refine gate_dst (N := 3) rfl ?_); refine box_event ?hg (N := 3) ?hd (cs := #[.int .i64 0, .int .i64 0, .bool false, .slice none 0 0, .bool false, .slice none 0 0]) (t := 25) ?hr ?_; (case hd => rfl); (case hg => rfl); (case hr => first | (go_simp; done) | (go_simp; rfl)); intro gb254 hg w30 hbox hb; replace HO249 := tRb HO249 hb; replace HO253 := tRb HO253 hb; have BK254 := Aside0.mk (hbox); have GW254 := tge HB hg; have GE254 := tge HB hg; replace HB := tBs HB hb; clear hb hbox hg; obtain ⟨hcz31_0, hcz31_1, hcz31_2, hcz31_3, hcz31_4, hcz31_5, hfz31_0, hfz31_1, hfz31_2, hfz31_3, hfz31_4, hfz31_5⟩ := cells6 BK254.out; obtain ⟨Ao32, co32, eo32⟩ := Kd.R_slice HO249.out; subst eo32; obtain ⟨Ao33, co33, eo33⟩ := Kd.R_slice HO253.out; subst eo33) | (go_at_call 13; (with_reducible refine (impl_RecordText.calls (hE := ?sideE) k t244 t245 t246 _ _ t247 t250 _ _ t251 t255 _ ?side1 ?side2 ?side3 ?side4 A4.out).mono ?_); (case sideE => exact ErrOk.below (HE.out.sub (by decide)) zb); (case side1 => refine (Kd.R_reads' (e := 3) (base := w.heap.size) (ok := fun k_ => some k_ ≠ (.slice Ao33 t251.length co33 : Value).ownBlock) (n := t247.length) (c := co32) ?_).2.2; exact (tRt HO249.out BK254.out)); (case side2 => exact (Kd.R_reads' HO249.out).2.1); (case side3 => refine (Kd.R_reads' (e := 3) (base := w.heap.size) (ok := fun k_ => some k_ ≠ (.slice Ao32 t247.length co32 : Value).ownBlock) (n := t251.length) (c := co33) ?_).2.2; exact (tRt HO253.out BK254.out)); (case side4 => exact (Kd.R_reads' HO253.out).2.1); rintro e w34 ⟨rfl, hb⟩; replace HO249 := Aside0.mk (Kd.R_below (tRt HO249.out BK254.out) hb); replace HO253 := Aside0.mk (Kd.R_below (tRt HO253.out BK254.out) hb); replace BK254 := tBp (o' := .cells #[.int .i64 t244, .int .i64 t245, .bool t246, .slice Ao32 t247.length co32, .bool t250, .slice Ao33 t251.length co33] 25 (0, 0)) BK254 hb; replace HB := tBs HB hb; (try clear hb); (try clear hb2); (try clear hk); (try clear hi); obtain ⟨hcz35_0, hcz35_1, hcz35_2, hcz35_3, hcz35_4, hcz35_5, hfz35_0, hfz35_1, hfz35_2, hfz35_3, hfz35_4, hfz35_5⟩ := cells6 BK254.out) | (go_at_call 14; (with_reducible refine (spec_RecordText.calls k t244 t245 t246 _ _ t247 t250 _ _ t251 t256 _ ?side1 ?side2 ?side3 ?side4 A5.out).mono ?_); (case side1 => repeat (first | exact (Kd.R_reads' HO249.out).2.2 | (with_reducible refine Kd.C_alloc ?_ _) | (with_reducible refine Kd.C_drewN ?_ _) | (with_reducible refine Kd.C_drew ?_))); (case side2 => exact (Kd.R_reads' HO249.out).2.1); (case side3 => repeat (first | exact (Kd.R_reads' HO253.out).2.2 | (with_reducible refine Kd.C_alloc ?_ _) | (with_reducible refine Kd.C_drewN ?_ _) | (with_reducible refine Kd.C_drew ?_))); (case side4 => exact (Kd.R_reads' HO253.out).2.1); rintro e w36 ⟨rfl, hb⟩; replace HO249 := tRb HO249 hb; replace HO253 := tRb HO253 hb; replace BK254 := tBb BK254 hb; replace HB := tBs HB hb; (try clear hb); (try clear hb2); (try clear hk); (try clear hi))); try go_wp2_with (first | (go_at_call 12; (with_reducible refine (spec_DrawRecordText.calls k _ _ l0 t244 t245 t246 t247 t250 t251 _ ?side1 ?side2 A3.out).mono ?_); (case side1 => exact tC HR0.out); (case side2 => exact HC0.out); rintro e w29 ⟨v248, v252, rfl, ho0, ho1, hb⟩; have u_v248 := tsv Tryd.prog v248 ho0; have u_v252 := tsv Tryd.prog v252 ho1; have HO249 := tRl ho0 HB; have HO253 := tRl ho1 HB; replace HB := tBs HB hb; (try clear hb); (try clear hb2); (try clear hk); (try clear hi); (try clear ho0); (try clear ho1)) | ((with_reducible refine gate_dst (N := 3) rfl ?_); refine box_event ?hg (N := 3) ?hd (cs := #[.int .i64 0, .int .i64 0, .bool false, .slice none 0 0, .bool false, .slice none 0 0]) (t := 25) ?hr ?_; (case hd => rfl); (case hg => rfl); (case hr => first | (go_simp; done) | (go_simp; rfl)); intro gb254 hg w30 hbox hb; replace HO249 := tRb HO249 hb; replace HO253 := tRb HO253 hb; have BK254 := Aside0.mk (hbox); have GW254 := tge HB hg; have GE254 := tge HB hg; replace HB := tBs HB hb; clear hb hbox hg; obtain ⟨hcz31_0, hcz31_1, hcz31_2, hcz31_3, hcz31_4, hcz31_5, hfz31_0, hfz31_1, hfz31_2, hfz31_3, hfz31_4, hfz31_5⟩ := cells6 BK254.out; obtain ⟨Ao32, co32, eo32⟩ := Kd.R_slice HO249.out; subst eo32; obtain ⟨Ao33, co33, eo33⟩ := Kd.R_slice HO253.out; subst eo33) | (go_at_call 13; (with_reducible refine (impl_RecordText.calls (hE := ?sideE) k t244 t245 t246 _ _ t247 t250 _ _ t251 t255 _ ?side1 ?side2 ?side3 ?side4 A4.out).mono ?_); (case sideE => exact ErrOk.below (HE.out.sub (by decide)) zb); (case side1 => refine (Kd.R_reads' (e := 3) (base := w.heap.size) (ok := fun k_ => some k_ ≠ (.slice Ao33 t251.length co33 : Value).ownBlock) (n := t247.length) (c := co32) ?_).2.2; exact (tRt HO249.out BK254.out)); (case side2 => exact (Kd.R_reads' HO249.out).2.1); (case side3 => refine (Kd.R_reads' (e := 3) (base := w.heap.size) (ok := fun k_ => some k_ ≠ (.slice Ao32 t247.length co32 : Value).ownBlock) (n := t251.length) (c := co33) ?_).2.2; exact (tRt HO253.out BK254.out)); (case side4 => exact (Kd.R_reads' HO253.out).2.1); rintro e w34 ⟨rfl, hb⟩; replace HO249 := Aside0.mk (Kd.R_below (tRt HO249.out BK254.out) hb); replace HO253 := Aside0.mk (Kd.R_below (tRt HO253.out BK254.out) hb); replace BK254 := tBp (o' := .cells #[.int .i64 t244, .int .i64 t245, .bool t246, .slice Ao32 t247.length co32, .bool t250, .slice Ao33 t251.length co33] 25 (0, 0)) BK254 hb; replace HB := tBs HB hb; (try clear hb); (try clear hb2); (try clear hk); (try clear hi); obtain ⟨hcz35_0, hcz35_1, hcz35_2, hcz35_3, hcz35_4, hcz35_5, hfz35_0, hfz35_1, hfz35_2, hfz35_3, hfz35_4, hfz35_5⟩ := cells6 BK254.out) | (go_at_call 14; (with_reducible refine (spec_RecordText.calls k t244 t245 t246 _ _ t247 t250 _ _ t251 t256 _ ?side1 ?side2 ?side3 ?side4 A5.out).mono ?_); (case side1 => repeat (first | exact (Kd.R_reads' HO249.out).2.2 | (with_reducible refine Kd.C_alloc ?_ _) | (with_reducible refine Kd.C_drewN ?_ _) | (with_reducible refine Kd.C_drew ?_))); (case side2 => exact (Kd.R_reads' HO249.out).2.1); (case side3 => repeat (first | exact (Kd.R_reads' HO253.out).2.2 | (with_reducible refine Kd.C_alloc ?_ _) | (with_reducible refine Kd.C_drewN ?_ _) | (with_reducible refine Kd.C_drew ?_))); (case side4 => exact (Kd.R_reads' HO253.out).2.1); rintro e w36 ⟨rfl, hb⟩; replace HO249 := tRb HO249 hb; replace HO253 := tRb HO253 hb; replace BK254 := tBb BK254 hb; replace HB := tBs HB hb; (try clear hb); (try clear hb2); (try clear hk); (try clear hi))))
   all_goals go_ret
   all_goals exact ⟨by first | rfl | (simp [errW_none, errW_some] <;> rfl) | (simp [*, errW_none, errW_some] <;> rfl), zb⟩

end Go.Proofs.YteoicjlhkaljbaaDoor.G

namespace Go.Proofs.YteoicjlhkaljbaaDoor.Rd
open Go.RowKit Go.Proofs.YteoicjlhkaljbaaDoorW.PrintWords
set_option linter.unusedVariables false
section
variable {H : Type} {enc : TypeId × Value → H} {P : Program} {w : World} {base : Nat} {spare : Nat → Bool} {held : Bool}
/-- What a reading of type t gives: a value of the kind, and what is known of it. -/
def Opens (enc : TypeId × Value → H) (P : Program) (w : World) (base : Nat) (spare : Nat → Bool) (held : Bool) {α : Type} (t : TypeId) (d : Kd α) (ok : α → Prop) : Prop :=
  P.cellsOf t = d.sz ∧ ∀ fuel cs x, DataW.trod enc P w base spare held fuel t cs = some x → ∃ v, d.K w v cs ∧ ok v
theorem Opens.imp_ {α : Type} {t : TypeId} {d : Kd α} {ok ok' : α → Prop} (h : Opens enc P w base spare held t d ok) (hi : ∀ v, ok v → ok' v) : Opens enc P w base spare held t d ok' :=
  ⟨h.1, fun fuel cs x hx => by
    obtain ⟨v, hk, ho⟩ := h.2 fuel cs x hx
    exact ⟨v, hk, hi v ho⟩⟩
theorem opens_int {t : TypeId} {k : IntKind} (ht : P.underlying t = some (.int k)) (hc : P.cellsOf t = 1) : Opens enc P w base spare held t (Kd.int k) (fun n => (Lit.int k n).wf = true) := by
  refine ⟨hc, fun fuel cs x h => ?_⟩
  obtain ⟨n, rfl, _, hw⟩ := DataW.trod_int ht h
  exact ⟨n, rfl, hw⟩
theorem cells_len {base : Nat} {a : Addr} {n : Nat} {cs : List Value} (h : w.cells? base a n = some cs) : cs.length = n ∧ ∀ i u, cs[i]? = some u → w.cell? (a.add i) = some u := by
  unfold World.cells? at h
  split at h
  · rename_i hb
    refine ⟨by simpa using mapM_some_length h, fun i u hu => ?_⟩
    have hi : i < n := by
      have := (List.getElem?_eq_some_iff.1 hu).1
      have h2 : cs.length = n := by simpa using mapM_some_length h
      omega
    have := mapM_some_get h i i (by simp [hi])
    rw [hu] at this
    exact this
  · simp at h
theorem opens_row {α : Type} {t e : TypeId} {d : Kd α} {ok : α → Prop} (ht : P.underlying t = some (.slice e)) (hd : Opens enc P w base spare held e d ok) {fuel : Nat} {cs : List Value} {x : DataW H × List MemPlace}
    (h : DataW.trod enc P w base spare held fuel t cs = some x) : ∃ (A : Option Addr) (c : Nat) (xs : List α), cs = [.slice A xs.length c] ∧ xs.length ≤ c ∧ c ≤ maxLen ∧ d.C w A xs.length xs ∧ ∀ y ∈ xs, ok y := by
  rcases Go.Deep.open_slice ht h with ⟨rfl, _⟩ | ⟨a, len, cap, m, n, D, Pl, rfl, hb, hl, hm, hmm, _, hel⟩
  · exact ⟨none, 0, [], rfl, Nat.le_refl _, by unfold maxLen; omega, ⟨rfl, by simp, fun h0 => absurd h0 (by simp)⟩, by simp⟩
  have hlm : len ≤ m := by rw [hmm]; split <;> omega
  have hx : ∀ i, i < len → ∃ y : α, ok y ∧ ∃ c, c.length = d.sz ∧ d.K w y c ∧ ∀ j u, c[j]? = some u → w.cell? (a.add (i * d.sz + j)) = some u := by
    intro i hi
    obtain ⟨cs', h1, h2⟩ := hel i (by omega)
    obtain ⟨y, hk, ho⟩ := hd.2 _ _ _ h2
    obtain ⟨hl', hc'⟩ := cells_len h1
    refine ⟨y, ho, cs', by rw [hl', hd.1], hk, fun j u hu => ?_⟩
    have := hc' j u hu
    rw [Go.Deep.add_add, hd.1] at this
    exact this
  rcases Nat.eq_zero_or_pos len with h0 | h0
  · subst h0
    exact ⟨some a, cap, [], rfl, Nat.zero_le _, hm, ⟨rfl, by simp, fun h1 => absurd h1 (by simp)⟩, by simp⟩
  obtain ⟨y0, _⟩ := hx 0 h0
  haveI : Inhabited α := ⟨y0⟩
  obtain ⟨g, hg⟩ := Go.Deep.choose_lt hx
  have hlen : ((List.range len).map g).length = len := by simp
  refine ⟨some a, cap, (List.range len).map g, by rw [hlen], by rw [hlen]; exact hl, hm, ⟨rfl, by rw [hlen]; unfold maxLen at hm; omega, fun _ => ⟨a, rfl, fun j p hj => ?_⟩⟩, fun y hy => ?_⟩
  · have hj' : j < len := by
      have := (List.getElem?_eq_some_iff.1 hj).1
      omega
    rw [List.getElem?_map, List.getElem?_range hj'] at hj
    simp at hj
    subst hj
    obtain ⟨_, c, hc1, hc2, hc3⟩ := hg j hj'
    exact ⟨c, hc1, hc2, hc3⟩
  · obtain ⟨i, hi, rfl⟩ := List.mem_map.1 hy
    exact (hg i (List.mem_range.1 hi)).1
end
end Go.Proofs.YteoicjlhkaljbaaDoor.Rd

namespace Go.Proofs.YteoicjlhkaljbaaDoor.OFnRecordTextLast
open Go.RowKit Go.Proofs.YteoicjlhkaljbaaDoorW.PrintWords Go.Proofs.YteoicjlhkaljbaaDoor.G
set_option linter.unusedVariables false
def Pure : Prop := ∀ (l0 : List Int), l0.length ≤ maxLen → (∀ y ∈ l0, (Lit.int .u8 y).wf = true) → ∃ k, laws_FnRecordTextLast.f k l0 = some true
end Go.Proofs.YteoicjlhkaljbaaDoor.OFnRecordTextLast

namespace Go.Proofs.YteoicjlhkaljbaaDoor.Pu
open Go.RowKit Go.Proofs.YteoicjlhkaljbaaDoorW.PrintWords Go.Proofs.YteoicjlhkaljbaaDoorW.PrintLast Go.Proofs.YteoicjlhkaljbaaDoor.G
set_option linter.unusedVariables false
set_option linter.unusedSimpArgs false
theorem str_one (x : Int) (h0 : 0 ≤ x) (h1 : x ≤ 255) : strOfNums [x] = ByteArray.mk [UInt8.ofNat x.toNat].toArray := by
  unfold strOfNums
  simp
theorem dec_ev : ∀ (m n : Nat), n < 10 ^ (m + 1) → n ≤ 1000000000000 → Ev (fun k => spec_l6Dec.f k (n : Int)) (ByteArray.mk (dec n).toArray) := by
  intro m
  induction m with
  | zero =>
    intro n h hn
    refine Ev.step (fun k => by rw [spec_l6Dec.f]) ?_
    have h10 : n < 10 := by simpa using h
    simp only [if_neg (show ¬ (n : Int) < -9223372036854775807 by omega), if_neg (show ¬ (n : Int) < 0 by omega), if_pos (show (n : Int) < 10 by omega), w64 (a := 48 + (n : Int)) (by omega) (by omega)]
    rw [show (48 + (n : Int)) % 256 = 48 + n by omega, str_one _ (by omega) (by omega)]
    unfold dec
    rw [dif_pos h10, show (48 + (n : Int)).toNat = 48 + n by omega]
    exact Ev.now _
  | succ m ih =>
    intro n h hn
    refine Ev.step (fun k => by rw [spec_l6Dec.f]) ?_
    by_cases h10 : n < 10
    · simp only [if_neg (show ¬ (n : Int) < -9223372036854775807 by omega), if_neg (show ¬ (n : Int) < 0 by omega), if_pos (show (n : Int) < 10 by omega), w64 (a := 48 + (n : Int)) (by omega) (by omega)]
      rw [show (48 + (n : Int)) % 256 = 48 + n by omega, str_one _ (by omega) (by omega)]
      unfold dec
      rw [dif_pos h10, show (48 + (n : Int)).toNat = 48 + n by omega]
      exact Ev.now _
    · have ht : Int.tdiv (n : Int) 10 = ((n / 10 : Nat) : Int) := by
        rw [Int.tdiv_eq_ediv_of_nonneg (by omega)]; omega
      have hm : Int.tmod (n : Int) 10 = ((n % 10 : Nat) : Int) := by
        rw [Int.tmod_eq_emod_of_nonneg (by omega)]; omega
      simp only [if_neg (show ¬ (n : Int) < -9223372036854775807 by omega), if_neg (show ¬ (n : Int) < 0 by omega), if_neg (show ¬ (n : Int) < 10 by omega), ht, hm, w64 (a := ((n / 10 : Nat) : Int)) (by omega) (by omega), w64 (a := 48 + ((n % 10 : Nat) : Int)) (by omega) (by omega)]
      have h1 : n / 10 < 10 ^ (m + 1) := by rw [Nat.pow_succ] at h; omega
      refine Ev.bind (ih (n / 10) h1 (by omega)) ?_
      simp only [bindS]
      rw [show (48 + ((n % 10 : Nat) : Int)) % 256 = 48 + ((n % 10 : Nat) : Int) by omega, str_one _ (by omega) (by omega), show (48 + ((n % 10 : Nat) : Int)).toNat = 48 + n % 10 by omega]
      have hl := dec_len (n / 10) 12 (by omega)
      have hs : (ByteArray.mk (dec (n / 10)).toArray).size + (ByteArray.mk [UInt8.ofNat (48 + n % 10)].toArray).size ≤ 9223372036854775807 := by
        rw [size_mk, size_mk]; simp only [List.length_singleton]; omega
      simp only [if_pos hs, app_mk]
      rw [show dec n = dec (n / 10) ++ [UInt8.ofNat (48 + n % 10)] by rw [dec, dif_neg h10]]
      exact Ev.now _
theorem hex_loop (l : List Int) (hl : l.length ≤ 1000000) (ho : l.all isB = true) : ∀ d i, l.length - i = d → i ≤ l.length →
    Ev (fun k => spec_BytesText.l0 k l digs (ByteArray.mk (hexOf (l.take i)).toArray) (i : Int)) (ByteArray.mk (hexOf l).toArray) := by
  intro d
  induction d with
  | zero =>
    intro i hi hle
    refine Ev.step (fun k => by rw [spec_BytesText.l0]) ?_
    simp only [if_neg (show ¬ ((i : Int) < (l.length : Int)) by omega)]
    rw [List.take_of_length_le (by omega)]
    exact Ev.now _
  | succ d ih =>
    intro i hi hle
    have hlt : i < l.length := by omega
    have hb := (isB_iff _).1 (List.all_eq_true.1 ho _ (List.getElem_mem hlt))
    obtain ⟨n, hn⟩ := Int.eq_ofNat_of_zero_le hb.1
    have hn2 : n ≤ 255 := by omega
    refine Ev.step (fun k => by rw [spec_BytesText.l0]) ?_
    simp only [if_pos (show (i : Int) < (l.length : Int) by omega)]
    refine Ev.bind (l1Ok_ev l (by omega)) ?_
    have ht : Int.tdiv (n : Int) 16 = ((n / 16 : Nat) : Int) := by
      rw [Int.tdiv_eq_ediv_of_nonneg (by omega)]; omega
    have hm : Int.tmod (n : Int) 16 = ((n % 16 : Nat) : Int) := by
      rw [Int.tmod_eq_emod_of_nonneg (by omega)]; omega
    have d1 := digs_at (n / 16) (by omega)
    have d2 := digs_at (n % 16) (by omega)
    have hsz : digs.size = 16 := rfl
    simp only [ho, if_true, if_pos (show (0 : Int) ≤ (i : Int) by omega), rdi_nat l i hlt, hn, ht, hm, w64 (a := ((n / 16 : Nat) : Int)) (by omega) (by omega), w64 (a := ((n / 16 : Nat) : Int) + 1) (by omega) (by omega), w64 (a := ((n % 16 : Nat) : Int) + 1) (by omega) (by omega), w64 (a := (i : Int) + 1) (by omega) (by omega),
      if_pos (show (0 : Int) ≤ ((n / 16 : Nat) : Int) by omega), if_pos (show ((n / 16 : Nat) : Int) ≤ ((n / 16 : Nat) : Int) + 1 by omega), if_pos (show ((n / 16 : Nat) : Int) + 1 ≤ (digs.size : Int) by rw [hsz]; omega),
      if_pos (show (0 : Int) ≤ ((n % 16 : Nat) : Int) by omega), if_pos (show ((n % 16 : Nat) : Int) ≤ ((n % 16 : Nat) : Int) + 1 by omega), if_pos (show ((n % 16 : Nat) : Int) + 1 ≤ (digs.size : Int) by rw [hsz]; omega),
      Int.toNat_natCast, show (((n / 16 : Nat) : Int) + 1).toNat = n / 16 + 1 by omega, show (((n % 16 : Nat) : Int) + 1).toNat = n % 16 + 1 by omega, d1, d2]
    have hll : (hexOf (l.take i)).length ≤ 2000000 := by rw [hexOf_len, List.length_take]; omega
    have s1 : (ByteArray.mk (hexOf (l.take i)).toArray).size + (ByteArray.mk [hx (n / 16)].toArray).size ≤ 9223372036854775807 := by
      rw [size_mk, size_mk]; simp only [List.length_singleton]; omega
    have s2 : (ByteArray.mk (hexOf (l.take i)).toArray ++ ByteArray.mk [hx (n / 16)].toArray).size + (ByteArray.mk [hx (n % 16)].toArray).size ≤ 9223372036854775807 := by
      rw [app_mk, size_mk, size_mk]; simp only [List.length_singleton, List.length_append]; omega
    simp only [if_pos s1, if_pos s2]
    simp only [app_mk]
    have := ih (i + 1) (by omega) (by omega)
    rw [List.take_succ_eq_append_getElem hlt, hexOf_snoc, hn, Int.toNat_natCast] at this
    simp only [List.append_assoc, List.cons_append, List.nil_append] at this ⊢
    exact this
theorem hex_ev (l : List Int) (hl : l.length ≤ 1000000) (ho : l.all isB = true) : Ev (fun k => spec_BytesText.f k l) (ByteArray.mk (hexOf l).toArray) := by
  unfold spec_BytesText.f
  have := hex_loop l hl ho l.length 0 (by omega) (by omega)
  exact this
def partT (has : Bool) (l : List Int) : List UInt8 := if has = true then 120 :: hexOf l else [45]
theorem part_ev (has : Bool) (l : List Int) (hl : l.length ≤ 1000000) (ho : has = true → l.all isB = true) : Ev (fun k => spec_l41Part.f k has l) (ByteArray.mk (partT has l).toArray) := by
  unfold spec_l41Part.f partT
  cases has
  · exact Ev.now _
  · simp only [if_true]
    refine Ev.bind (hex_ev l hl (ho rfl)) ?_
    have : 1 + (ByteArray.mk (hexOf l).toArray).size ≤ 9223372036854775807 := by rw [size_mk, hexOf_len]; omega
    simp only [if_pos this]
    rw [show (⟨#[120]⟩ : ByteArray) = ByteArray.mk [120].toArray from rfl, app_mk]
    exact Ev.now _
def textOf (r : S25) : List UInt8 := dec r.f0.toNat ++ 32 :: (dec r.f1.toNat ++ 32 :: (partT r.f2 r.f3 ++ 32 :: partT r.f4 r.f5))
theorem recOk_parts {r : S25} (h : recOk r = true) : (0 ≤ r.f0 ∧ r.f0 ≤ 99999) ∧ (0 ≤ r.f1 ∧ r.f1 ≤ 99999) ∧ (r.f2 = true → r.f3.all isB = true) ∧ (r.f4 = true → r.f5.all isB = true) ∧ (r.f2 = false → r.f3 = []) ∧ (r.f4 = false → r.f5 = []) := by
  unfold recOk partOk rng at h
  simp only [Bool.and_eq_true, decide_eq_true_eq] at h
  obtain ⟨⟨h0, h1⟩, h2, h3⟩ := h
  refine ⟨h0, h1, fun e => ?_, fun e => ?_, fun e => ?_, fun e => ?_⟩
  · rw [e] at h2; simp at h2; exact List.all_eq_true.2 h2.2
  · rw [e] at h3; simp at h3; exact List.all_eq_true.2 h3.2
  · rw [e] at h2; simpa using h2
  · rw [e] at h3; simpa using h3
theorem text_ev (r : S25) (h : recOk r = true) : Ev (fun k => spec_l41Text.f k r.f0 r.f1 r.f2 r.f3 r.f4 r.f5) (ByteArray.mk (textOf r).toArray) := by
  obtain ⟨h0, h1, h2, h3, _, _⟩ := recOk_parts h
  have hl := recOk_len h
  obtain ⟨a, ha⟩ := Int.eq_ofNat_of_zero_le h0.1
  obtain ⟨b, hb⟩ := Int.eq_ofNat_of_zero_le h1.1
  have la := dec_len a 4 (by omega)
  have lb := dec_len b 4 (by omega)
  have lp : (partT r.f2 r.f3).length ≤ 25 := by unfold partT; split; simp only [List.length_cons, hexOf_len]; omega; simp
  have lq : (partT r.f4 r.f5).length ≤ 25 := by unfold partT; split; simp only [List.length_cons, hexOf_len]; omega; simp
  unfold spec_l41Text.f
  rw [ha, hb]
  refine Ev.bind (dec_ev 4 a (by omega) (by omega)) ?_
  rw [show (⟨#[32]⟩ : ByteArray) = ByteArray.mk [32].toArray from rfl]
  simp only [if_pos (show (ByteArray.mk (dec a).toArray).size + 1 ≤ 9223372036854775807 by rw [size_mk]; omega)]
  refine Ev.bind (dec_ev 4 b (by omega) (by omega)) ?_
  simp only [app_mk]
  have e1 : (ByteArray.mk (dec a ++ [32]).toArray).size + (ByteArray.mk (dec b).toArray).size ≤ 9223372036854775807 := by rw [size_mk, size_mk]; simp only [List.length_append, List.length_singleton]; omega
  have e2 : (ByteArray.mk (dec a ++ [32] ++ dec b).toArray).size + 1 ≤ 9223372036854775807 := by rw [size_mk]; simp only [List.length_append, List.length_singleton]; omega
  simp only [if_pos e1, if_pos e2]
  refine Ev.bind (part_ev r.f2 r.f3 (by omega) h2) ?_
  simp only [app_mk]
  have e3 : (ByteArray.mk (dec a ++ [32] ++ dec b ++ [32]).toArray).size + (ByteArray.mk (partT r.f2 r.f3).toArray).size ≤ 9223372036854775807 := by rw [size_mk, size_mk]; simp only [List.length_append, List.length_singleton]; omega
  have e4 : (ByteArray.mk (dec a ++ [32] ++ dec b ++ [32] ++ partT r.f2 r.f3).toArray).size + 1 ≤ 9223372036854775807 := by rw [size_mk]; simp only [List.length_append, List.length_singleton]; omega
  simp only [if_pos e3, if_pos e4]
  refine Ev.bind (part_ev r.f4 r.f5 (by omega) h3) ?_
  simp only [app_mk]
  have e5 : (ByteArray.mk (dec a ++ [32] ++ dec b ++ [32] ++ partT r.f2 r.f3 ++ [32]).toArray).size + (ByteArray.mk (partT r.f4 r.f5).toArray).size ≤ 9223372036854775807 := by rw [size_mk, size_mk]; simp only [List.length_append, List.length_singleton]; omega
  simp only [if_pos e5]
  unfold textOf
  rw [ha, hb, Int.toNat_natCast, Int.toNat_natCast]
  have : dec a ++ [32] ++ dec b ++ [32] ++ partT r.f2 r.f3 ++ [32] ++ partT r.f4 r.f5 = dec a ++ 32 :: (dec b ++ 32 :: (partT r.f2 r.f3 ++ 32 :: partT r.f4 r.f5)) := by simp
  rw [this]
  exact Ev.now _
def val (l : List UInt8) : Nat := l.foldl (fun n c => 10 * n + (c.toNat - 48)) 0
theorem hx_range (n : Nat) (h : n < 16) : 48 ≤ (hx n).toNat ∧ (hx n).toNat ≤ 102 := by
  unfold hx
  split <;> simp only [UInt8.toNat_ofNat'] <;> omega
end Go.Proofs.YteoicjlhkaljbaaDoor.Pu

namespace Go.Proofs.YteoicjlhkaljbaaDoor.Pu
open Go.RowKit Go.Proofs.YteoicjlhkaljbaaDoorW.PrintWords Go.Proofs.YteoicjlhkaljbaaDoorW.PrintLast Go.Proofs.YteoicjlhkaljbaaDoor.G
set_option linter.unusedVariables false
set_option linter.unusedSimpArgs false
def lineV (r : S25) : ByteArray := if recOk r = true then ⟨(textOf r).toArray⟩ else ⟨#[]⟩
theorem partT_len (has : Bool) (l : List Int) (h : l.length ≤ 12) : (partT has l).length ≤ 25 := by unfold partT; split; simp only [List.length_cons, hexOf_len]; omega; simp
theorem text_len {r : S25} (h : recOk r = true) : (textOf r).length ≤ 63 := by
  obtain ⟨h0, h1, _⟩ := recOk_parts h
  have hl := recOk_len h
  have la := dec_len r.f0.toNat 4 (by omega)
  have lb := dec_len r.f1.toNat 4 (by omega)
  have lp := partT_len r.f2 r.f3 hl.1
  have lq := partT_len r.f4 r.f5 hl.2
  unfold textOf
  simp only [List.length_append, List.length_cons]
  omega
theorem partText_some (has : Bool) (l : List Int) (hl : l.length ≤ 12) (ho : has = true → l.all isB = true) : impl_partText.f has l = some ⟨(partT has l).toArray⟩ := by
  unfold impl_partText.f partT
  cases has
  · rfl
  · have hs : hexT l = ⟨(hexOf l).toArray⟩ := by unfold hexT; rw [if_pos (ho rfl)]
    simp only [if_true, impl_BytesText.f, if_pos (show l.length ≤ 1000000 by omega), bindS, hs]
    rw [if_pos (by rw [size_mk, hexOf_len]; omega), show (⟨#[120]⟩ : ByteArray) = ByteArray.mk [120].toArray from rfl, app_mk]
    rfl
theorem itoa_some (n : Int) (h0 : 0 ≤ n) (h1 : n ≤ 99999) : strconv_Itoa_67.f n = some ⟨(dec n.toNat).toArray⟩ := by
  unfold strconv_Itoa_67.f
  rw [if_pos (by omega)]
theorem words_some {r : S25} (h : recOk r = true) : impl_recordWords.f r.f0 r.f1 r.f2 r.f3 r.f4 r.f5 = some [⟨(dec r.f0.toNat).toArray⟩, ⟨(dec r.f1.toNat).toArray⟩, ⟨(partT r.f2 r.f3).toArray⟩, ⟨(partT r.f4 r.f5).toArray⟩] := by
  obtain ⟨h0, h1, h2, h3, _, _⟩ := recOk_parts h
  have hl := recOk_len h
  unfold impl_recordWords.f
  simp only [itoa_some _ h0.1 h0.2, itoa_some _ h1.1 h1.2, partText_some _ _ hl.1 h2, partText_some _ _ hl.2 h3, bindS]
theorem join_four (a b c d : List UInt8) : Lib.join [a, b, c, d] [32] = a ++ 32 :: (b ++ 32 :: (c ++ 32 :: d)) := by
  simp [Lib.join, List.intercalate]
theorem RecordText_ev (r : S25) (hr : Lens r) : Ev (fun k => impl_RecordText.f k r.f0 r.f1 r.f2 r.f3 r.f4 r.f5) (lineV r) := by
  unfold impl_RecordText.f lineV
  refine Ev.bind (RecordValid_ev r hr) ?_
  by_cases h : recOk r = true
  · have hl := text_len h
    simp only [h, if_true, words_some h, bindS]
    have e : Lib.join (List.map (fun x => x.data.toList) [(⟨(dec r.f0.toNat).toArray⟩ : ByteArray), ⟨(dec r.f1.toNat).toArray⟩, ⟨(partT r.f2 r.f3).toArray⟩, ⟨(partT r.f4 r.f5).toArray⟩]) (ByteArray.mk #[32]).data.toList = textOf r := join_four _ _ _ _
    unfold strings_Join.f
    rw [e, if_pos ⟨by omega, by simp⟩]
    exact Ev.now _
  · have h' : recOk r = false := by simpa using h
    simp only [h', Bool.false_eq_true, if_false]
    exact Ev.now _
theorem sRecordText_ev (r : S25) (hr : Lens r) : Ev (fun k => spec_RecordText.f k r.f0 r.f1 r.f2 r.f3 r.f4 r.f5) (lineV r) := by
  unfold spec_RecordText.f lineV
  refine Ev.bind (sRecordValid_ev r hr) ?_
  by_cases h : recOk r = true
  · simp only [h, if_true]
    exact Ev.bind (text_ev r h) (Ev.now _)
  · have h' : recOk r = false := by simpa using h
    simp only [h', Bool.false_eq_true, if_false]
    exact Ev.now _
end Go.Proofs.YteoicjlhkaljbaaDoor.Pu

namespace Go.Proofs.YteoicjlhkaljbaaDoor.Pu
open Go.RowKit Go.Proofs.YteoicjlhkaljbaaDoorW.PrintWords Go.Proofs.YteoicjlhkaljbaaDoorW.PrintLast Go.Proofs.YteoicjlhkaljbaaDoorW.PrintMore Go.Proofs.YteoicjlhkaljbaaDoor.G
set_option linter.unusedVariables false
set_option linter.unusedSimpArgs false
/-- Rows of records that can be told. -/
def RowR (l : List S25) : Prop := l.length ≤ 9223372036854775807 ∧ ∀ r ∈ l, Lens r
theorem RowR.rd {l : List S25} (h : RowR l) (i : Nat) (hi : i < l.length) : Lens (rd_T25 l (i : Int)) := by
  rw [rdR_nat l i hi]
  exact h.2 _ (List.getElem_mem _)
/-! rows of batches -/
theorem rdB_nat (l : List S84) (i : Nat) (h : i < l.length) : rd_T84 l (i : Int) = l[i] := by
  unfold rd_T84
  simp [h]
/-- Rows of batches that can be told. -/
def RowB (l : List S84) : Prop := l.length ≤ 9223372036854775807 ∧ ∀ b ∈ l, RowR b.f5
theorem RowB.rd {l : List S84} (h : RowB l) (i : Nat) (hi : i < l.length) : RowR (rd_T84 l (i : Int)).f5 := by
  rw [rdB_nat l i hi]
  exact h.2 _ (List.getElem_mem _)
end Go.Proofs.YteoicjlhkaljbaaDoor.Pu

namespace Go.Proofs.YteoicjlhkaljbaaDoor.Pu
open Go.RowKit Go.Proofs.YteoicjlhkaljbaaDoorW.PrintWords Go.Proofs.YteoicjlhkaljbaaDoorW.PrintLast Go.Proofs.YteoicjlhkaljbaaDoor.G
set_option linter.unusedVariables false
set_option linter.unusedSimpArgs false
theorem xor_i64 (a b : Int) (h0 : 0 ≤ a) (h1 : a < 4611686018427387904) (k0 : 0 ≤ b) (k1 : b < 4611686018427387904) : 0 ≤ bits .xor .i64 a b := by
  obtain ⟨a, rfl⟩ := Int.eq_ofNat_of_zero_le h0
  obtain ⟨b, rfl⟩ := Int.eq_ofNat_of_zero_le k0
  have ha : a < 2 ^ 62 := by omega
  have hb : b < 2 ^ 62 := by omega
  have hx := Nat.xor_lt_two_pow ha hb
  have ha' : a % 2 ^ 64 = a := Nat.mod_eq_of_lt (by omega)
  have hb' : b % 2 ^ 64 = b := Nat.mod_eq_of_lt (by omega)
  show 0 ≤ IntKind.i64.wrap ((BitVec.ofInt 64 (a : Int) ^^^ BitVec.ofInt 64 (b : Int)).toNat : Int)
  rw [BitVec.ofInt_natCast, BitVec.ofInt_natCast, BitVec.toNat_xor, BitVec.toNat_ofNat, BitVec.toNat_ofNat, ha', hb', IntKind.wrap_i64]
  omega
theorem rd_range {b : List Int} (hb : ∀ x ∈ b, 0 ≤ x ∧ x ≤ 255) (i : Int) : 0 ≤ rd b i ∧ rd b i ≤ 255 := by
  unfold rd
  rw [List.getD_eq_getElem?_getD]
  rcases h : b[i.toNat]? with _ | x
  · simp
  · exact hb x (List.mem_of_getElem? h)
theorem mod_range {x n : Int} (h0 : 0 ≤ x) (h1 : 1 ≤ n) : 0 ≤ Int.tmod x n ∧ Int.tmod x n < n := by
  rw [Int.tmod_eq_emod_of_nonneg h0]
  exact ⟨Int.emod_nonneg _ (by omega), Int.emod_lt_of_pos _ (by omega)⟩
/-- A code that is read: bytes, and a place that is no great number. -/
def CodeOk (b : List Int) : Prop := b.length ≤ 2000 ∧ ∀ x ∈ b, 0 ≤ x ∧ x ≤ 255
theorem pick_ends {b : List Int} (hb : CodeOk b) (p n : Int) (h0 : 0 ≤ p) (h1 : p ≤ 1000000000) (hn : n ≤ 4611686018427387904) :
    EndsIn (fun k => spec_l6Rd_pick.f k b p n) (fun r => r.2 = p + 1 ∧ 0 ≤ r.1 ∧ (1 ≤ n → r.1 < n) ∧ (n < 1 → r.1 = 0)) := by
  obtain ⟨hl, hr⟩ := hb
  unfold spec_l6Rd_pick.f
  rw [w64 (a := p + 1) (by omega) (by omega)]
  by_cases hn1 : n < 1
  · simp only [if_pos hn1]
    refine EndsIn.step (fun k => by rw [spec_l6Rd_pick.j0]) ?_
    simp only [if_true]
    exact EndsIn.now _ ⟨rfl, by omega, by omega, fun _ => rfl⟩
  · simp only [if_neg hn1]
    refine EndsIn.step (fun k => by rw [spec_l6Rd_pick.j0]) ?_
    rw [show p + 1 - 1 = p by omega, w64 (a := p) (by omega) (by omega)]
    by_cases hz : (b.length : Int) = 0
    · have : ((b.length : Int) == 0) = true := by simpa using hz
      simp only [this, if_true]
      exact EndsIn.now _ ⟨rfl, by omega, by omega, fun h => by omega⟩
    · have hz' : ((b.length : Int) == 0) = false := by simpa using hz
      simp only [hz', Bool.false_eq_true, if_false]
      by_cases hp : p < (b.length : Int)
      · have hx := rd_range hr p
        simp only [if_pos hp, if_pos h0, if_neg (show ¬ n = 0 by omega)]
        rw [w64 (a := rd b p) (by omega) (by omega)]
        have hm := mod_range (x := rd b p) (n := n) hx.1 (by omega)
        exact EndsIn.now _ ⟨rfl, hm.1, fun _ => hm.2, fun h => by omega⟩
      · have hm1 := mod_range (x := p) (n := (b.length : Int)) h0 (by omega)
        have h7 : wrap64 (wrap64 (p * 7) + 3) = p * 7 + 3 := by
          rw [w64 (a := p * 7) (by omega) (by omega), w64 (by omega) (by omega)]
        have hm2 := mod_range (x := p * 7 + 3) (n := (b.length : Int)) (by omega) (by omega)
        simp only [if_neg hp, if_neg hz, h7, if_pos hm1.1, if_pos hm1.2, if_pos hm2.1, if_pos hm2.2, if_neg (show ¬ n = 0 by omega)]
        have hx1 := rd_range hr (Int.tmod p b.length)
        have hx2 := rd_range hr (Int.tmod (p * 7 + 3) b.length)
        generalize rd b (Int.tmod p b.length) = x1 at hx1 ⊢
        generalize rd b (Int.tmod (p * 7 + 3) b.length) = x2 at hx2 ⊢
        have hd : 0 ≤ Int.tdiv p (b.length : Int) ∧ Int.tdiv p (b.length : Int) ≤ p := by
          rw [Int.tdiv_eq_ediv_of_nonneg h0]
          exact ⟨Int.ediv_nonneg h0 (by omega), Int.ediv_le_self _ h0⟩
        generalize Int.tdiv p (b.length : Int) = q at hd ⊢
        have e1 : wrap64 x1 = x1 := w64 (by omega) (by omega)
        have e2 : wrap64 x2 = x2 := w64 (by omega) (by omega)
        have e3 : wrap64 (x1 * 131) = x1 * 131 := w64 (by omega) (by omega)
        have e4 : wrap64 (x2 * 1117) = x2 * 1117 := w64 (by omega) (by omega)
        have e5 : wrap64 (x1 * 131 + x2 * 1117) = x1 * 131 + x2 * 1117 := w64 (by omega) (by omega)
        have e6 : wrap64 (p * 29) = p * 29 := w64 (by omega) (by omega)
        have e7 : wrap64 (x1 * 131 + x2 * 1117 + p * 29) = x1 * 131 + x2 * 1117 + p * 29 := w64 (by omega) (by omega)
        have e8 : wrap64 q = q := w64 (by omega) (by omega)
        have e9 : wrap64 (q * 53) = q * 53 := w64 (by omega) (by omega)
        have e10 : wrap64 (x1 * 131 + x2 * 1117 + p * 29 + q * 53) = x1 * 131 + x2 * 1117 + p * 29 + q * 53 := w64 (by omega) (by omega)
        simp only [e1, e2, e3, e4, e5, e6, e7, e8, e9, e10]
        have hX : 0 ≤ x1 * 131 + x2 * 1117 + p * 29 + q * 53 ∧ x1 * 131 + x2 * 1117 + p * 29 + q * 53 < 4611686018427387904 := ⟨by omega, by omega⟩
        generalize x1 * 131 + x2 * 1117 + p * 29 + q * 53 = X at hX ⊢
        have e11 : wrap64 (Int.tdiv X 64) = X / 64 := by
          rw [Int.tdiv_eq_ediv_of_nonneg hX.1]
          exact w64 (by omega) (by omega)
        rw [e11]
        have hxx := xor_i64 X (X / 64) hX.1 hX.2 (by omega) (by omega)
        have hm := mod_range (n := n) hxx (by omega)
        exact EndsIn.now _ ⟨rfl, hm.1, fun _ => hm.2, fun h => by omega⟩
end Go.Proofs.YteoicjlhkaljbaaDoor.Pu

namespace Go.Proofs.YteoicjlhkaljbaaDoor.Pu
open Go.RowKit Go.Proofs.YteoicjlhkaljbaaDoorW.PrintWords Go.Proofs.YteoicjlhkaljbaaDoorW.PrintLast Go.Proofs.YteoicjlhkaljbaaDoorW.PrintMore Go.Proofs.YteoicjlhkaljbaaDoor.G
set_option linter.unusedVariables false
set_option linter.unusedSimpArgs false
theorem part_loop {b : List Int} (hb : CodeOk b) (n : Int) (hn : n ≤ 12) : ∀ d (i : Nat) (l : List Int) (p : Int), 12 - i = d → l.length = i → i ≤ 12 → 0 ≤ p → p ≤ 900000000 + 2 * (i : Int) →
    EndsIn (fun k => spec_l91Part.l0 k l n (i : Int) b p) (fun r => r.2.1.length ≤ 12 ∧ p ≤ r.2.2 ∧ r.2.2 ≤ p + 2 * (12 - (i : Int))) := by
  intro d
  induction d with
  | zero =>
    intro i l p hd hl hi p0 p1
    refine EndsIn.step (fun k => by rw [spec_l91Part.l0]) ?_
    simp only [if_neg (show ¬ (i : Int) < n by omega)]
    exact EndsIn.now _ ⟨by show l.length ≤ 12; omega, by show p ≤ p; omega, by show p ≤ _; omega⟩
  | succ d ih =>
    intro i l p hd hl hi p0 p1
    refine EndsIn.step (fun k => by rw [spec_l91Part.l0]) ?_
    by_cases h : (i : Int) < n
    · simp only [if_pos h]
      refine EndsIn.bind (pick_ends hb p 256 p0 (by omega) (by omega)) fun q hq => ?_
      obtain ⟨q2, q3, q4, _⟩ := hq
      simp only [bindS]
      rw [q2]
      refine EndsIn.bind (pick_ends hb (p + 1) 4 (by omega) (by omega) (by omega)) fun s hs => ?_
      obtain ⟨s2, s3, s4, _⟩ := hs
      have s5 := s4 (by omega)
      rw [s2]
      simp only [if_pos s3, if_pos (show s.1 < (([1, 2, 3, q.1] : List Int).length : Int) by simpa using s5), if_pos (show l.length < 17592186044416 by omega), w64 (a := (i : Int) + 1) (by omega) (by omega)]
      have := ih (i + 1) (l ++ [rd [1, 2, 3, q.1] s.1]) (p + 1 + 1) (by omega) (by rw [List.length_append, hl]; rfl) (by omega) (by omega) (by omega)
      exact this.mono fun r hr => ⟨hr.1, by omega, by omega⟩
    · simp only [if_neg h]
      exact EndsIn.now _ ⟨by show l.length ≤ 12; omega, by show p ≤ p; omega, by show p ≤ _; omega⟩
theorem part_ends {b : List Int} (hb : CodeOk b) (p : Int) (h0 : 0 ≤ p) (h1 : p ≤ 800000000) : EndsIn (fun k => spec_l91Part.f k b p) (fun r => r.2.1.length ≤ 12 ∧ p ≤ r.2.2 ∧ r.2.2 ≤ p + 30) := by
  have st : ∀ (n q : Int), n ≤ 12 → p ≤ q → q ≤ p + 5 → EndsIn (fun k => spec_l91Part.j0 k [] n b q) (fun r => r.2.1.length ≤ 12 ∧ p ≤ r.2.2 ∧ r.2.2 ≤ p + 30) := by
    intro n q hn q0 q1
    refine EndsIn.step (fun k => by rw [spec_l91Part.j0]) ?_
    have := part_loop hb n hn 12 0 [] q (by omega) rfl (by omega) (by omega) (by omega)
    exact this.mono fun r hr => ⟨hr.1, by omega, by omega⟩
  unfold spec_l91Part.f
  refine EndsIn.bind (pick_ends hb p 4 h0 (by omega) (by omega)) fun q hq => ?_
  obtain ⟨q2, q3, q4, _⟩ := hq
  rw [q2]
  by_cases hz : q.1 = 0
  · simp only [if_pos hz]
    exact EndsIn.now _ ⟨by simp, by show p ≤ p + 1; omega, by show p + 1 ≤ p + 30; omega⟩
  · simp only [if_neg hz, bindS]
    refine EndsIn.bind (pick_ends hb (p + 1) 5 (by omega) (by omega) (by omega)) fun s hs => ?_
    obtain ⟨s2, s3, s4, _⟩ := hs
    have s5 := s4 (by omega)
    rw [s2]
    refine EndsIn.bind (pick_ends hb (p + 1 + 1) 12 (by omega) (by omega) (by omega)) fun u hu => ?_
    obtain ⟨u2, u3, u4, _⟩ := hu
    rw [u2]
    by_cases hu0 : u.1 = 0
    · simp only [if_pos hu0]
      exact st _ _ (by omega) (by omega) (by omega)
    · simp only [if_neg hu0]
      exact st _ _ (by omega) (by omega) (by omega)
end Go.Proofs.YteoicjlhkaljbaaDoor.Pu

namespace Go.Proofs.YteoicjlhkaljbaaDoor.Pu
open Go.RowKit Go.Proofs.YteoicjlhkaljbaaDoorW.PrintWords Go.Proofs.YteoicjlhkaljbaaDoorW.PrintLast Go.Proofs.YteoicjlhkaljbaaDoor.G
set_option linter.unusedVariables false
set_option linter.unusedSimpArgs false
theorem open_some (l0 : List Int) (hr : ∀ x ∈ l0, 0 ≤ x ∧ x ≤ 255) : ∃ b, spec_l6Open.f l0 = some (b, 0) ∧ CodeOk b := by
  unfold spec_l6Open.f
  by_cases h : (l0.length : Int) > 2000
  · rw [if_pos h, if_pos (by omega)]
    exact ⟨_, rfl, by rw [List.length_take]; omega, fun x hx => hr x (List.mem_of_mem_take hx)⟩
  · rw [if_neg h]
    exact ⟨_, rfl, by omega, hr⟩
end Go.Proofs.YteoicjlhkaljbaaDoor.Pu

namespace Go.Proofs.YteoicjlhkaljbaaDoor.Pu
open Go.RowKit Go.Proofs.YteoicjlhkaljbaaDoorW.PrintWords Go.Proofs.YteoicjlhkaljbaaDoorW.PrintLast Go.Proofs.YteoicjlhkaljbaaDoor.G
set_option linter.unusedVariables false
set_option linter.unusedSimpArgs false
theorem drawRec_ends {b : List Int} (hb : CodeOk b) (p : Int) (h0 : 0 ≤ p) (h1 : p ≤ 300000000) : EndsIn (fun k => spec_l91Record.f k b p) (fun r => r.2.2.2.1.length ≤ 13 ∧ r.2.2.2.2.2.1.length ≤ 13 ∧ p ≤ r.2.2.2.2.2.2 ∧ r.2.2.2.2.2.2 ≤ p + 1000) := by
  unfold spec_l91Record.f
  refine EndsIn.bind (pick_ends hb p 60 (by omega) (by omega) (by omega)) fun a ha => ?_
  refine EndsIn.bind (pick_ends hb a.2 250 (by omega) (by omega) (by omega)) fun c hc => ?_
  refine EndsIn.bind (pick_ends hb c.2 2 (by omega) (by omega) (by omega)) fun d hd => ?_
  refine EndsIn.bind (pick_ends hb d.2 100 (by omega) (by omega) (by omega)) fun e he => ?_
  refine EndsIn.bind (part_ends hb e.2 (by omega) (by omega)) fun f hf => ?_
  refine EndsIn.bind (part_ends hb f.2.2 (by omega) (by omega)) fun g hg => ?_
  refine EndsIn.bind (pick_ends hb g.2.2 40 (by omega) (by omega) (by omega)) fun m hm => ?_
  by_cases h0 : m.1 = 0
  · simp only [if_pos h0, bindS]
    refine EndsIn.bind (pick_ends hb m.2 3 (by omega) (by omega) (by omega)) fun n hn => ?_
    simp only [if_pos (show 0 ≤ n.1 by omega), if_pos (show n.1 < (([-1, 99999, 100000] : List Int).length : Int) by simp; omega)]
    exact EndsIn.now _ ⟨by dsimp only; omega, by dsimp only; omega, by dsimp only; omega, by dsimp only; omega⟩
  · simp only [if_neg h0]
    by_cases h1 : m.1 = 1
    · simp only [if_pos h1]
      exact EndsIn.now _ ⟨by dsimp only; omega, by dsimp only; omega, by dsimp only; omega, by dsimp only; omega⟩
    · simp only [if_neg h1]
      by_cases h2 : m.1 = 2
      · simp only [if_pos h2, if_pos (show g.2.1.length < 17592186044416 by omega)]
        exact EndsIn.now _ ⟨by dsimp only; omega, by simp; omega, by dsimp only; omega, by dsimp only; omega⟩
      · simp only [if_neg h2]
        exact EndsIn.now _ ⟨by dsimp only; omega, by dsimp only; omega, by dsimp only; omega, by dsimp only; omega⟩
end Go.Proofs.YteoicjlhkaljbaaDoor.Pu

namespace Go.Proofs.YteoicjlhkaljbaaDoor.Pure
open Go.RowKit Go.Proofs.YteoicjlhkaljbaaDoor.G Go.Proofs.YteoicjlhkaljbaaDoorW.PrintWords Go.Proofs.YteoicjlhkaljbaaDoorW.PrintLast Go.Proofs.YteoicjlhkaljbaaDoorW.PrintMore Go.Proofs.YteoicjlhkaljbaaDoor.Pu
set_option linter.unusedSimpArgs false
theorem bt_mk (l : List UInt8) (i : Nat) (h : i < l.length) : bt (ByteArray.mk l.toArray) (i : Int) = (l[i].toNat : Int) := by
  unfold bt
  rw [dif_pos (show ((i : Int)).toNat < (ByteArray.mk l.toArray).size by rw [size_mk]; simpa using h)]
  rfl
theorem hx_not (n : Nat) (h : n < 16) : hx n ≠ 45 := fun e => by
  have := hx_range n h
  rw [e] at this
  simp at this
theorem part_last (has : Bool) (l : List Int) (ho : has = true → l.all isB = true) : ∃ p c, partT has l = p ++ [c] ∧ (c == 45) = !has := by
  unfold partT
  cases has
  · exact ⟨[], 45, rfl, rfl⟩
  · simp only [if_true]
    rcases List.eq_nil_or_concat l with rfl | ⟨m, x, rfl⟩
    · exact ⟨[], 120, rfl, rfl⟩
    · have hx1 := (isB_iff _).1 (List.all_eq_true.1 (ho rfl) x (by simp))
      refine ⟨120 :: (hexOf m ++ [hx (x.toNat / 16)]), hx (x.toNat % 16), by rw [List.concat_eq_append, hexOf_snoc]; simp, ?_⟩
      have := hx_not (x.toNat % 16) (by omega)
      simpa using this
theorem text_last (r : S25) (h : recOk r = true) : ∃ p c, textOf r = p ++ [c] ∧ (c == 45) = !r.f4 := by
  obtain ⟨_, _, _, h3, _, _⟩ := recOk_parts h
  obtain ⟨p, c, e, hc⟩ := part_last r.f4 r.f5 h3
  exact ⟨dec r.f0.toNat ++ 32 :: (dec r.f1.toNat ++ 32 :: (partT r.f2 r.f3 ++ 32 :: p)), c, by unfold textOf; rw [e]; simp, hc⟩
theorem FnRecordTextLast : OFnRecordTextLast.Pure := by
  intro l0 hl0 ho0
  refine EndsIn.rounds ?_
  unfold laws_FnRecordTextLast.f
  have hr := fun x hx => u8_range (ho0 x hx)
  by_cases h : (l0.length : Int) > 1048576
  · simp only [if_pos h]
    exact EndsIn.now _ rfl
  · simp only [if_neg h]
    obtain ⟨c, hc, hok⟩ := open_some l0 hr
    unfold spec_DrawRecordText.f
    simp only [hc, bindS]
    refine EndsIn.bind (P := fun r => r.2.2.2.1.length ≤ 13 ∧ r.2.2.2.2.2.length ≤ 13) (EndsIn.bind (drawRec_ends hok 0 (by omega) (by omega)) fun r hr => EndsIn.now _ ⟨hr.1, hr.2.1⟩) fun q hq => ?_
    obtain ⟨q0, q1, q2, q3, q4, q5⟩ := q
    obtain ⟨hq3, hq5⟩ := hq
    dsimp only at hq3 hq5 ⊢
    have hL : Lens (⟨q0, q1, q2, q3, q4, q5⟩ : S25) := ⟨by dsimp only; omega, by dsimp only; omega⟩
    refine ⟨true, ?_, rfl⟩
    refine Ev.bind (RecordText_ev _ hL) (Ev.bind (sRecordText_ev _ hL) ?_)
    simp only [if_true]
    by_cases hv : recOk (⟨q0, q1, q2, q3, q4, q5⟩ : S25) = true
    · obtain ⟨p, x, e, hx⟩ := text_last _ hv
      have hlen := text_len hv
      have el : lineV (⟨q0, q1, q2, q3, q4, q5⟩ : S25) = ByteArray.mk (p ++ [x]).toArray := by unfold lineV; rw [if_pos hv, e]
      have hsz : (ByteArray.mk (p ++ [x]).toArray).size = p.length + 1 := by rw [size_mk]; simp
      rw [e] at hlen
      simp only [List.length_append, List.length_singleton] at hlen
      rw [el]
      have hb : bt (ByteArray.mk (p ++ [x]).toArray) ((p.length : Nat) : Int) = (x.toNat : Int) := by
        rw [bt_mk _ _ (by simp)]
        simp
      rw [hsz, show ((p.length + 1 : Nat) : Int) - 1 = (p.length : Int) by omega, w64 (a := (p.length : Int)) (by omega) (by omega), hb]
      simp only [toList_mk, if_neg (show ¬ p ++ [x] = [] by simp), if_pos (show (0 : Int) ≤ (p.length : Int) by omega), if_pos (show (p.length : Int) < ((p.length + 1 : Nat) : Int) by omega)]
      have h45 : ((x.toNat : Int) == 45) = (x == 45) := by
        rw [Bool.eq_iff_iff, beq_iff_eq, beq_iff_eq]
        constructor
        · intro hh
          exact UInt8.toNat_inj.1 (by simpa using (by omega : x.toNat = 45))
        · rintro rfl
          rfl
      rw [h45, hx]
      simp only [beq_self_eq_true]
      exact Ev.now _
    · have el : lineV (⟨q0, q1, q2, q3, q4, q5⟩ : S25) = ByteArray.mk [].toArray := by unfold lineV; rw [if_neg hv]
      rw [el]
      simp only [toList_mk, if_true, beq_self_eq_true]
      exact Ev.now _
end Go.Proofs.YteoicjlhkaljbaaDoor.Pure

namespace Go.Proofs.YteoicjlhkaljbaaDoor.fnRecordTextLast
open Go.ChangeShapes Go.WideShapes Go.ChangeAt Go.RowKit Go.Proofs.YteoicjlhkaljbaaDoor.OFnRecordTextLast Go.Proofs.YteoicjlhkaljbaaDoor.G Go.Joins
open Go.ChangeMaps (open_string shut_string)
set_option linter.unusedVariables false
theorem own : ownKnob Tryd.prog.godebug = none := by kernel_rfl
theorem laidOut : laidOutB Tryd.prog = true := by kernel_rfl
set_option maxRecDepth 100000 in
theorem lifted (os : Os) (started : os.Started) (H : Type) (enc : TypeId × Value → H) :
    ReturnsInHanded {} Tryd.checked os 3 .any (fun w args => (Rows.fnRecordTextLastSpec.pre enc Tryd.prog Tryd.f3 Rows.fnRecordTextLastRow.domain false w args ∧ laidMetH Tryd.prog Rows.fnRecordTextLastRow.laid w) ∧ sizedMet enc Tryd.prog Tryd.f3 (OpenSpec.ofChange Rows.fnRecordTextLastSpec) false w args) (Rows.fnRecordTextLastSpec.post enc Tryd.prog Tryd.f3 false true false false) := by
  refine returns_and_shaped (C := Tryd.checked) (X := fun w _ => laidMetH Tryd.prog Rows.fnRecordTextLastRow.laid w) (fun _ _ _ hh h => h.of_heap hh) own started (by kernel_rfl) Tryd.func3
    (ChangeSpec.witness_shaped (enc := enc) (C := Tryd.checked) (os := os) (X := fun w _ => laidMetH Tryd.prog Rows.fnRecordTextLastRow.laid w) false (World.laidAll Tryd.prog os Rows.fnRecordTextLastRow.laid) #[.slice none 0 0] 8 (World.laidAll_os _ _ _)
      (World.shaped_of_ZipB (by kernel_rfl) (by kernel_rfl)) (by kernel_rfl) (by kernel_rfl) (by kernel_rfl)
      (by rw [MakeChecks.laidMetH_plain _ _ _ (by kernel_rfl)]; exact laidMet_laidAll _ (by kernel_rfl) (by kernel_rfl))) ?_
  intro W base args ds gs before hval0 hW hcnd hsz0 hLL hsh _
  have hsz : (DataW.weightsEach Tryd.prog (Tryd.f3.params.toList ++ Rows.fnRecordTextLastSpec.plain.varTypes Tryd.prog) (ds ++ gs)).all (· ≤ reachBytes) = true := hsz0
  have hval : ∀ (j : Nat) t v, Tryd.f3.params[j]? = some t → args[j]? = some v → Value.okWide Tryd.prog W .any base t v := hval0
  have hW' := hW
  obtain ⟨p, q, hA0, hV, rfl, hfz, hnd⟩ := hW
  have hA : DataW.TrodAll enc Tryd.prog W 0 (fun _ => true) true Tryd.f3.params.toList args.toList ds p := hA0
  rw [Tryd.params3] at hA hval hsz
  obtain ⟨v0, vs0, d0, ds0, p0, q0, hargs, rfl, rfl, h0, r0⟩ := trodAll_cons hA
  obtain ⟨rfl, rfl, rfl⟩ := trodAll_nil r0
  obtain rfl : args = #[v0] := by cases args; simp_all
  obtain ⟨rfl, rfl⟩ := trodVars_none hV
  obtain ⟨a0, len0, cap0, rfl⟩ := okWide_slice Tryd.underlying22 (hval 0 22 v0 rfl rfl)
  have k0 := h0
  have lt0 : ∀ x ∈ p0, x.block < W.heap.size := by obtain ⟨m, hm⟩ := k0; exact DataW.trod_lt m _ _ _ hm
  obtain ⟨fuel0, hf0⟩ := h0
  obtain ⟨A0, c0, l0, hcs0, hlc0, hm0, hC0, ho0⟩ := Rd.opens_row Tryd.underlying22 (Rd.opens_int Tryd.underlying5 (by kernel_rfl)) hf0
  simp [Value.cells] at hcs0
  obtain ⟨rfl, rfl, rfl⟩ := hcs0
  have hL : laidMet Tryd.prog [("math/bits.deBruijn32tab", Rows.laid_math_bits_deBruijn32tab), ("math/bits.deBruijn64tab", Rows.laid_math_bits_deBruijn64tab), ("internal/strconv.uint64pow10", Rows.laid_internal_strconv_uint64pow10)] W := by
    have h_ := hLL
    rw [MakeChecks.laidMetH_plain _ _ _ (by kernel_rfl)] at h_
    exact h_
  have hT : Lib.TabIs Tryd.prog W "internal/strconv.uint64pow10" .u64 Lib.pow10Tab := pow10_laid hL.tail.tail
  have hE : ErrOk [1] W := ⟨fun h_ => hT, fun h_ => maxLen_cell hsh⟩
  clear hL hLL hsh hT
  clear hA0 hval0 hsz0 hsz
  obtain ⟨k, h⟩ := Pure.FnRecordTextLast l0 (Nat.le_trans hlc0 hm0) ho0
  refine (laws_FnRecordTextLast.calls k _ _ l0 true W hE hC0 hlc0 h).mono fun e W' ⟨he, bel0⟩ => ?_
  subst he
  have bel : Below W.heap.size W W' := bel0
  exact ⟨_, rfl, _, _, _, [], _, [], hW', trodAll_mk1 (shut_bool Tryd.underlying4 _), (trodAll_cons_mk (Below.trod laidOut (by kernel_rfl) (of_decide_eq_true (by kernel_rfl)) k0 bel lt0) trodAll_mk0), rfl, bel.frame _, fun h => by cases h⟩
theorem over : Rows.fnRecordTextLastRow.holds Tryd.pinned (OpenSpec.ofChange Rows.fnRecordTextLastSpec) :=
  OpenClaim.holds_of_wide 3 Tryd.f3 rfl rfl rfl rfl rfl rfl rfl ⟨rfl, rfl, rfl, rfl, rfl⟩ rfl rfl rfl rfl rfl (by kernel_rfl) Tryd.func3 (by kernel_rfl)
    (of_decide_eq_true (by kernel_rfl)) (by unfold Func.isWrapper; first | (rw [if_pos (by decide +kernel)]; kernel_rfl) | (rw [if_neg (by decide +kernel)]; exact ⟨rfl, rfl⟩))
    (fun os started H enc _ => lifted os started H enc)
theorem proved : Rows.FnRecordTextLastSaid := over
#print axioms proved
end Go.Proofs.YteoicjlhkaljbaaDoor.fnRecordTextLast
namespace Go.Proofs.YteoicjlhkaljbaaDoor
/-- The row, under a short name, for the claim. -/
theorem fnRecordTextLast_holds : Rows.FnRecordTextLastSaid := fnRecordTextLast.proved
theorem fnRecordTextLast_card : Rows.FnRecordTextLastCardSaid :=
  Claim7.holds_tied_plain_at .later [] [.data, .data, .data] true (true, "ef6fe5f5f6daff1c50aa8af91370cf0377cad3eec5cad5a8540fa73015e2e4f7") false
    fnRecordTextLast_holds (fun _ h => by cases h) (by kernel_rfl) (fun _ h => by cases h) fnRecordTextLast_row_tie rfl ⟨rfl, rfl⟩ (by kernel_rfl) rfl
    (fun f fn hf hfn => by
      obtain rfl : f = 3 := Option.some.inj ((show Tryd.prog.funcNamed "loop.example/recordbatches/laws.FnRecordTextLast" = some 3 by kernel_rfl).symm.trans hf) |>.symm
      obtain rfl : fn = Tryd.f3 := (Option.some.inj (Tryd.func3.symm.trans hfn)).symm
      exact ⟨by kernel_rfl, fun j t ht => by
        rw [Tryd.params3] at ht
        have h3 : t = 22 := by
          rcases j with _ | j
          · have h_ := ht.symm; simp at h_; simp [h_]
          · simp at ht
        rcases h3 with rfl
        · exact (show Tryd.prog.wantsStandIn 22 = false by kernel_rfl)⟩)
    (by kernel_rfl)
#print axioms fnRecordTextLast_card
end Go.Proofs.YteoicjlhkaljbaaDoor

