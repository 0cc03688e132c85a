/- A text of seat YteoicjlhkaljbaaDoor: what the law FnRecordText needs of this repo's texts (by pack.py). Not trusted: Lean checks it. -/
import Derived.Test.YteoicjlhkaljbaaDoorKFnRecordText6
import Derived.Deep.Slices
import Derived.SizedLaws
import Derived.Lib.SplitLaws
import Derived.Lib.Join
import Derived.Laws.BitsLemmas
import Derived.Lay
import Derived.LaidMore
import Derived.MakeChecks
import Derived.Stop.LaidErr
import Derived.Test.YteoicjlhkaljbaaDoorRows
import Derived.Test.YteoicjlhkaljbaaDoorCards
import Derived.Test.YteoicjlhkaljbaaDoorTie
import Derived.SevenTiedAt
import Derived.WalkSmall
import Derived.ChangeVars
import Derived.JoinedOf
import Derived.LaidLaws
import Derived.LaidHandle
import Derived.Stop.LaidTwo
import Derived.Stop.Joined
import Derived.RowKitTokens
import Derived.WalkKit
import Derived.ProofKit
import Derived.OpenShut
import Derived.ShutString
import Derived.ChangeOld
import Derived.Below
import Derived.Lib.SmallJoins
import Derived.Laws.StructEq
import Derived.ChangeSlices
namespace Go.Proofs.YteoicjlhkaljbaaDoor.G
open Go.RowKit Go.Proofs.YteoicjlhkaljbaaDoorW.PrintWords Go.Proofs.YteoicjlhkaljbaaDoorW.PrintLast Go.Proofs.YteoicjlhkaljbaaDoorW.PrintMore
attribute [local go_sem] max2_int min2_int max_two min_two max_three min_three max_four min_four   -- for this text's walks alone
set_option linter.unusedVariables false
set_option linter.unusedSimpArgs false

def spec_l41Text.f (k : Nat) (a0_0 : Int) (a0_1 : Int) (a0_2 : Bool) (l0_3 : List Int) (a0_4 : Bool) (l0_5 : List Int) : Option (ByteArray) := (spec_l6Dec.f k a0_0).bind fun t237 => (if t237.size + 1 ≤ 9223372036854775807 then ((spec_l6Dec.f k a0_1).bind fun t238 => (if (t237 ++ (⟨#[32]⟩ : ByteArray)).size + t238.size ≤ 9223372036854775807 then (if ((t237 ++ (⟨#[32]⟩ : ByteArray)) ++ t238).size + 1 ≤ 9223372036854775807 then ((spec_l41Part.f k a0_2 l0_3).bind fun t239 => (if (((t237 ++ (⟨#[32]⟩ : ByteArray)) ++ t238) ++ (⟨#[32]⟩ : ByteArray)).size + t239.size ≤ 9223372036854775807 then (if ((((t237 ++ (⟨#[32]⟩ : ByteArray)) ++ t238) ++ (⟨#[32]⟩ : ByteArray)) ++ t239).size + 1 ≤ 9223372036854775807 then ((spec_l41Part.f k a0_4 l0_5).bind fun t240 => (if (((((t237 ++ (⟨#[32]⟩ : ByteArray)) ++ t238) ++ (⟨#[32]⟩ : ByteArray)) ++ t239) ++ (⟨#[32]⟩ : ByteArray)).size + t240.size ≤ 9223372036854775807 then (some ((((((t237 ++ (⟨#[32]⟩ : ByteArray)) ++ t238) ++ (⟨#[32]⟩ : ByteArray)) ++ t239) ++ (⟨#[32]⟩ : ByteArray)) ++ t240)) else (none))) else (none)) else (none))) else (none)) else (none))) else (none))
def spec_l41Text.T1 : Bool × List (List Nat × List Nat) := (true, [([], []), ([0], [0]), ([1], [1]), ([2], [2]), ([], []), ([4], [4]), ([5, 2], [5]), ([3, 6], [3, 6]), ([7], [7]), ([], []), ([9], [9]), ([], []), ([11], [11]), ([10, 12, 6], [10, 12]), ([8, 13], [8, 13]), ([14], [14]), ([], []), ([16], [16]), ([], []), ([18], [18]), ([17, 19, 13], [17, 19]), ([15, 20], [15, 20]), ([21, 20, 0, 1, 2, 3, 4, 5, 6, 7, 8, 9, 10, 11, 12, 13, 14, 15, 16, 17, 18, 19, 20, 21], [21])])
def spec_l41Text.B1 : List Nat := [0, 1, 3, 7, 0, 16, 55, 127, 255, 0, 512, 0, 2048, 7799, 16383, 32767, 0, 65536, 0, 262144, 999031, 2097151, 4194303]
theorem spec_l41Text.tab1 : rtab .any (opsOf Tryd.f38 1) = spec_l41Text.T1 := by kernel_rfl
theorem spec_l41Text.bits1 : waitsOk spec_l41Text.T1.2 spec_l41Text.B1 = true := by kernel_rfl
set_option maxHeartbeats 8000000 in
set_option maxRecDepth 100000 in
theorem spec_l41Text.calls (k : Nat) (a0_0 : Int) (a0_1 : Int) (a0_2 : Bool) (A0_3 : Option Addr) (c0_3 : Nat) (l0_3 : List Int) (a0_4 : Bool) (A0_5 : Option Addr) (c0_5 : Nat) (l0_5 : List Int) (r : ByteArray) (w : World) (hr0_3 : Kd.C (Kd.int .i64) w A0_3 l0_3.length l0_3) (hc0_3 : l0_3.length ≤ c0_3) (hr0_5 : Kd.C (Kd.int .i64) w A0_5 l0_5.length l0_5) (hc0_5 : l0_5.length ≤ c0_5) (h : spec_l41Text.f k a0_0 a0_1 a0_2 l0_3 a0_4 l0_5 = some r) :
  Calls Tryd.prog 38 #[.agg #[.int .i64 a0_0, .int .i64 a0_1, .bool a0_2, .slice A0_3 l0_3.length c0_3, .bool a0_4, .slice A0_5 l0_5.length c0_5]] w fun e w' => e = .returned (.string r) ∧ Below w.heap.size w w' := by
 have hu25 := Tryd.underlying25
 have HR0_3 := Aside0.mk hr0_3
 have HC0_3 := Aside0.mk hc0_3
 clear hr0_3 hc0_3
 have HR0_5 := Aside0.mk hr0_5
 have HC0_5 := Aside0.mk hc0_5
 clear hr0_5 hc0_5
 have HB := Aside0.mk (Below.refl w.heap.size w)
 have H : ((spec_l6Dec.f k a0_0).bind fun t237 => (if t237.size + 1 ≤ 9223372036854775807 then ((spec_l6Dec.f k a0_1).bind fun t238 => (if (t237 ++ (⟨#[32]⟩ : ByteArray)).size + t238.size ≤ 9223372036854775807 then (if ((t237 ++ (⟨#[32]⟩ : ByteArray)) ++ t238).size + 1 ≤ 9223372036854775807 then ((spec_l41Part.f k a0_2 l0_3).bind fun t239 => (if (((t237 ++ (⟨#[32]⟩ : ByteArray)) ++ t238) ++ (⟨#[32]⟩ : ByteArray)).size + t239.size ≤ 9223372036854775807 then (if ((((t237 ++ (⟨#[32]⟩ : ByteArray)) ++ t238) ++ (⟨#[32]⟩ : ByteArray)) ++ t239).size + 1 ≤ 9223372036854775807 then ((spec_l41Part.f k a0_4 l0_5).bind fun t240 => (if (((((t237 ++ (⟨#[32]⟩ : ByteArray)) ++ t238) ++ (⟨#[32]⟩ : ByteArray)) ++ t239) ++ (⟨#[32]⟩ : ByteArray)).size + t240.size ≤ 9223372036854775807 then (some ((((((t237 ++ (⟨#[32]⟩ : ByteArray)) ++ t238) ++ (⟨#[32]⟩ : ByteArray)) ++ t239) ++ (⟨#[32]⟩ : ByteArray)) ++ t240)) else (none))) else (none)) else (none))) else (none)) else (none))) else (none))) = some r := h
 clear h
 replace H := tbe H
 obtain ⟨t237, A2, H⟩ := H
 by_cases c3 : t237.size + 1 ≤ 9223372036854775807
 ·rw [if_pos c3] at H
  have c3b0 := eq_true c3
  have c3b1 : decide (t237.size + 1 ≤ 9223372036854775807) = true := decide_eq_true c3
  try have c3b2 : (9223372036854775807 < t237.size + 1) = False := eq_false (Nat.not_lt.2 c3)
  replace H := tbe H
  obtain ⟨t238, A4, H⟩ := H
  by_cases c5 : (t237 ++ (⟨#[32]⟩ : ByteArray)).size + t238.size ≤ 9223372036854775807
  ·rw [if_pos c5] at H
   have c5b0 := eq_true c5
   have c5b1 : decide ((t237 ++ (⟨#[32]⟩ : ByteArray)).size + t238.size ≤ 9223372036854775807) = true := decide_eq_true c5
   try have c5b2 : (9223372036854775807 < (t237 ++ (⟨#[32]⟩ : ByteArray)).size + t238.size) = False := eq_false (Nat.not_lt.2 c5)
   (try (have c5y : (9223372036854775807 < t237.size + 1 + t238.size) = False := eq_false (by have h_ := c5; simp only [ByteArray.size_append, show (⟨#[32]⟩ : ByteArray).size = 1 from rfl] at h_; omega)))
   by_cases c6 : ((t237 ++ (⟨#[32]⟩ : ByteArray)) ++ t238).size + 1 ≤ 9223372036854775807
   ·rw [if_pos c6] at H
    have c6b0 := eq_true c6
    have c6b1 : decide (((t237 ++ (⟨#[32]⟩ : ByteArray)) ++ t238).size + 1 ≤ 9223372036854775807) = true := decide_eq_true c6
    try have c6b2 : (9223372036854775807 < ((t237 ++ (⟨#[32]⟩ : ByteArray)) ++ t238).size + 1) = False := eq_false (Nat.not_lt.2 c6)
    (try (have c6y : (9223372036854775807 < t237.size + 1 + t238.size + 1) = False := eq_false (by have h_ := c6; simp only [ByteArray.size_append, show (⟨#[32]⟩ : ByteArray).size = 1 from rfl] at h_; omega)))
    replace H := tbe H
    obtain ⟨t239, A7, H⟩ := H
    by_cases c8 : (((t237 ++ (⟨#[32]⟩ : ByteArray)) ++ t238) ++ (⟨#[32]⟩ : ByteArray)).size + t239.size ≤ 9223372036854775807
    ·rw [if_pos c8] at H
     have c8b0 := eq_true c8
     have c8b1 : decide ((((t237 ++ (⟨#[32]⟩ : ByteArray)) ++ t238) ++ (⟨#[32]⟩ : ByteArray)).size + t239.size ≤ 9223372036854775807) = true := decide_eq_true c8
     try have c8b2 : (9223372036854775807 < (((t237 ++ (⟨#[32]⟩ : ByteArray)) ++ t238) ++ (⟨#[32]⟩ : ByteArray)).size + t239.size) = False := eq_false (Nat.not_lt.2 c8)
     (try (have c8y : (9223372036854775807 < t237.size + 1 + t238.size + 1 + t239.size) = False := eq_false (by have h_ := c8; simp only [ByteArray.size_append, show (⟨#[32]⟩ : ByteArray).size = 1 from rfl] at h_; omega)))
     by_cases c9 : ((((t237 ++ (⟨#[32]⟩ : ByteArray)) ++ t238) ++ (⟨#[32]⟩ : ByteArray)) ++ t239).size + 1 ≤ 9223372036854775807
     ·rw [if_pos c9] at H
      have c9b0 := eq_true c9
      have c9b1 : decide (((((t237 ++ (⟨#[32]⟩ : ByteArray)) ++ t238) ++ (⟨#[32]⟩ : ByteArray)) ++ t239).size + 1 ≤ 9223372036854775807) = true := decide_eq_true c9
      try have c9b2 : (9223372036854775807 < ((((t237 ++ (⟨#[32]⟩ : ByteArray)) ++ t238) ++ (⟨#[32]⟩ : ByteArray)) ++ t239).size + 1) = False := eq_false (Nat.not_lt.2 c9)
      (try (have c9y : (9223372036854775807 < t237.size + 1 + t238.size + 1 + t239.size + 1) = False := eq_false (by have h_ := c9; simp only [ByteArray.size_append, show (⟨#[32]⟩ : ByteArray).size = 1 from rfl] at h_; omega)))
      replace H := tbe H
      obtain ⟨t240, A10, H⟩ := H
      by_cases c11 : (((((t237 ++ (⟨#[32]⟩ : ByteArray)) ++ t238) ++ (⟨#[32]⟩ : ByteArray)) ++ t239) ++ (⟨#[32]⟩ : ByteArray)).size + t240.size ≤ 9223372036854775807
      ·rw [if_pos c11] at H
       have c11b0 := eq_true c11
       have c11b1 : decide ((((((t237 ++ (⟨#[32]⟩ : ByteArray)) ++ t238) ++ (⟨#[32]⟩ : ByteArray)) ++ t239) ++ (⟨#[32]⟩ : ByteArray)).size + t240.size ≤ 9223372036854775807) = true := decide_eq_true c11
       try have c11b2 : (9223372036854775807 < (((((t237 ++ (⟨#[32]⟩ : ByteArray)) ++ t238) ++ (⟨#[32]⟩ : ByteArray)) ++ t239) ++ (⟨#[32]⟩ : ByteArray)).size + t240.size) = False := eq_false (Nat.not_lt.2 c11)
       (try (have c11y : (9223372036854775807 < t237.size + 1 + t238.size + 1 + t239.size + 1 + t240.size) = False := eq_false (by have h_ := c11; simp only [ByteArray.size_append, show (⟨#[32]⟩ : ByteArray).size = 1 from rfl] at h_; omega)))
       obtain rfl := Option.some.inj H
       go_enter Tryd.func38, Tryd.ntmps38
       try go_wp2_with (first | ((with_reducible refine gate_dst (N := 1) rfl ?_); refine box_event ?hg (N := 1) ?hd (cs := #[.int .i64 a0_0, .int .i64 a0_1, .bool a0_2, .slice A0_3 l0_3.length c0_3, .bool a0_4, .slice A0_5 l0_5.length c0_5]) (t := 25) ?hr ?_; (case hd => rfl); (case hg => rfl); (case hr => first | (go_simp; done) | (go_simp; rfl)); intro gb236 hg w12 hbox hb; have BK236 := Aside0.mk (hbox); have GW236 := tge HB hg; have GE236 := tge HB hg; replace HB := tBs HB hb; clear hb hbox hg))
       replace BK236 := Aside0.mk (blk_drew BK236.out)
       replace HB := Aside0.mk (below_drew1 HB.out)
       refine start_ (n := 23) (S := fun w' => w'.cell? ⟨gb236, 0, none⟩ = some (.int .i64 a0_0) ∧ w'.cell? ⟨gb236, 1, none⟩ = some (.int .i64 a0_1) ∧ w'.cell? ⟨gb236, 2, none⟩ = some (.bool a0_2) ∧ w'.cell? ⟨gb236, 3, none⟩ = some (.slice A0_3 l0_3.length c0_3) ∧ w'.cell? ⟨gb236, 4, none⟩ = some (.bool a0_4) ∧ w'.cell? ⟨gb236, 5, none⟩ = some (.slice A0_5 l0_5.length c0_5)) (ds := []) #[false, false, false, false, false, false, false, false, false, false, false, false, false, false, false, false, false, false, false, false, false, false, false] (by kernel_rfl) rfl rfl ⟨(blk_cell BK236.out 0).trans rfl, (blk_cell BK236.out 1).trans rfl, (blk_cell BK236.out 2).trans rfl, (blk_cell BK236.out 3).trans rfl, (blk_cell BK236.out 4).trans rfl, (blk_cell BK236.out 5).trans rfl⟩ (fun hHeld => ?_); refine with_tabW spec_l41Text.tab1 spec_l41Text.bits1 (fun HT_ HW_ => ?_)
       generalize w12.drew = w13 at BK236 HB hHeld ⊢
       refine tpu 0 (some 3) #[true, false, false, false, false, false, false, false, false, false, false, false, false, false, false, false, false, false, false, false, false, false, false] ?_
       refine tpu 4 (some 7) #[true, false, false, false, true, false, false, false, false, false, false, false, false, false, false, false, false, false, false, false, false, false, false] ?_
       refine tpu 9 (some 12) #[true, false, false, false, true, false, false, false, false, true, false, false, false, false, false, false, false, false, false, false, false, false, false] ?_
       refine tpu 11 (some 14) #[true, false, false, false, true, false, false, false, false, true, false, true, false, false, false, false, false, false, false, false, false, false, false] ?_
       refine tpu 16 (some 19) #[true, false, false, false, true, false, false, false, false, true, false, true, false, false, false, false, true, false, false, false, false, false, false] ?_
       refine tpu 18 (some 21) #[true, false, false, false, true, false, false, false, false, true, false, true, false, false, false, false, true, false, true, false, false, false, false] ?_
       refine tta 1 (some 4) #[true, true, false, false, true, false, false, false, false, true, false, true, false, false, false, false, true, false, true, false, false, false, false] hHeld ?_ (hy := by rintro w' ⟨s0, s1, s2, s3, s4, s5⟩; go_simp; with_reducible rfl)
       refine tta 5 (some 8) #[true, true, false, false, true, true, false, false, false, true, false, true, false, false, false, false, true, false, true, false, false, false, false] hHeld ?_ (hy := by rintro w' ⟨s0, s1, s2, s3, s4, s5⟩; go_simp; with_reducible rfl)
       refine tta 10 (some 13) #[true, true, false, false, true, true, false, false, false, true, true, true, false, false, false, false, true, false, true, false, false, false, false] hHeld ?_ (hy := by rintro w' ⟨s0, s1, s2, s3, s4, s5⟩; go_simp; with_reducible rfl)
       refine tta 12 (some 15) #[true, true, false, false, true, true, false, false, false, true, true, true, true, false, false, false, true, false, true, false, false, false, false] hHeld ?_ (hy := by rintro w' ⟨s0, s1, s2, s3, s4, s5⟩; go_simp; with_reducible rfl)
       refine tta 17 (some 20) #[true, true, false, false, true, true, false, false, false, true, true, true, true, false, false, false, true, true, true, false, false, false, false] hHeld ?_ (hy := by rintro w' ⟨s0, s1, s2, s3, s4, s5⟩; go_simp; with_reducible rfl)
       refine tta 19 (some 22) #[true, true, false, false, true, true, false, false, false, true, true, true, true, false, false, false, true, true, true, true, false, false, false] hHeld ?_ (hy := by rintro w' ⟨s0, s1, s2, s3, s4, s5⟩; go_simp; with_reducible rfl)
       refine one_ (i := 2) (N := some 5) #[true, true, true, false, true, true, false, false, false, true, true, true, true, false, false, false, true, true, true, true, false, false, false] rfl rfl (one_of HT_.out (by kernel_rfl)) (by decide) (fun K hK => ?_)
       refine goes_ Tryd.func72 (by kernel_rfl) rfl #[.int .i64 a0_0] (by rfl) rfl rfl tq ?_
       with_reducible refine (spec_l6Dec.calls k a0_0 t237 _ A2.out).mono ?_
       rintro e w14 ⟨rfl, hb⟩
       refine ⟨_, rfl, ?_⟩
       replace BK236 := tBb BK236 hb
       replace HB := tBs HB hb
       (try clear hb)
       (try clear hb2)
       (try clear hk)
       (try clear hi)
       refine hK.out _ _ ⟨(blk_cell BK236.out 0).trans rfl, (blk_cell BK236.out 1).trans rfl, (blk_cell BK236.out 2).trans rfl, (blk_cell BK236.out 3).trans rfl, (blk_cell BK236.out 4).trans rfl, (blk_cell BK236.out 5).trans rfl⟩ (fun hHeld => ?_)
       clear hK K
       refine tnm (some 5) ?_
       refine tpu 3 (some 6) #[true, true, true, true, true, true, false, false, false, true, true, true, true, false, false, false, true, true, true, true, false, false, false] ?_
       refine one_ (i := 6) (N := some 9) #[true, true, true, true, true, true, true, false, false, true, true, true, true, false, false, false, true, true, true, true, false, false, false] rfl rfl (one_of HT_.out (by kernel_rfl)) (by decide) (fun K hK => ?_)
       refine goes_ Tryd.func72 (by kernel_rfl) rfl #[.int .i64 a0_1] (by rfl) rfl rfl tq ?_
       with_reducible refine (spec_l6Dec.calls k a0_1 t238 _ A4.out).mono ?_
       rintro e w15 ⟨rfl, hb⟩
       refine ⟨_, rfl, ?_⟩
       replace BK236 := tBb BK236 hb
       replace HB := tBs HB hb
       (try clear hb)
       (try clear hb2)
       (try clear hk)
       (try clear hi)
       refine hK.out _ _ ⟨(blk_cell BK236.out 0).trans rfl, (blk_cell BK236.out 1).trans rfl, (blk_cell BK236.out 2).trans rfl, (blk_cell BK236.out 3).trans rfl, (blk_cell BK236.out 4).trans rfl, (blk_cell BK236.out 5).trans rfl⟩ (fun hHeld => ?_)
       clear hK K
       refine tnm (some 9) ?_
       refine tpu 7 (some 10) #[true, true, true, true, true, true, true, true, false, true, true, true, true, false, false, false, true, true, true, true, false, false, false] ?_
       refine tpu 8 (some 11) #[true, true, true, true, true, true, true, true, true, true, true, true, true, false, false, false, true, true, true, true, false, false, false] ?_
       refine one_ (i := 13) (N := some 16) #[true, true, true, true, true, true, true, true, true, true, true, true, true, true, false, false, true, true, true, true, false, false, false] rfl rfl (one_of HT_.out (by kernel_rfl)) (by decide) (fun K hK => ?_)
       refine goes_ Tryd.func73 (by kernel_rfl) rfl #[.bool a0_2, .slice A0_3 l0_3.length c0_3] (by rfl) rfl rfl tq ?_
       with_reducible refine (spec_l41Part.calls k a0_2 _ _ l0_3 t239 _ ?side1 ?side2 A7.out).mono ?_
       (case side1 => exact tC (Kd.C_below HR0_3.out HB.out))
       (case side2 => exact HC0_3.out)
       rintro e w' ⟨rfl, ⟨nd, rfl⟩⟩
       refine ⟨_, rfl, ?_⟩
       refine hK.out _ _ ⟨(blk_cell BK236.out 0).trans rfl, (blk_cell BK236.out 1).trans rfl, (blk_cell BK236.out 2).trans rfl, (blk_cell BK236.out 3).trans rfl, (blk_cell BK236.out 4).trans rfl, (blk_cell BK236.out 5).trans rfl⟩ (fun hHeld => ?_)
       clear hK K
       refine tnm (some 16) ?_
       refine tpu 14 (some 17) #[true, true, true, true, true, true, true, true, true, true, true, true, true, true, true, false, true, true, true, true, false, false, false] ?_
       refine tpu 15 (some 18) #[true, true, true, true, true, true, true, true, true, true, true, true, true, true, true, true, true, true, true, true, false, false, false] ?_
       refine one_ (i := 20) (N := some 23) #[true, true, true, true, true, true, true, true, true, true, true, true, true, true, true, true, true, true, true, true, true, false, false] rfl rfl (one_of HT_.out (by kernel_rfl)) (by decide) (fun K hK => ?_)
       refine goes_ Tryd.func73 (by kernel_rfl) rfl #[.bool a0_4, .slice A0_5 l0_5.length c0_5] (by rfl) rfl rfl tq ?_
       with_reducible refine (spec_l41Part.calls k a0_4 _ _ l0_5 t240 _ ?side1 ?side2 A10.out).mono ?_
       (case side1 => exact tC (Kd.C_below HR0_5.out zb))
       (case side2 => exact HC0_5.out)
       rintro e w' ⟨rfl, ⟨nd, rfl⟩⟩
       refine ⟨_, rfl, ?_⟩
       refine hK.out _ _ ⟨(blk_cell BK236.out 0).trans rfl, (blk_cell BK236.out 1).trans rfl, (blk_cell BK236.out 2).trans rfl, (blk_cell BK236.out 3).trans rfl, (blk_cell BK236.out 4).trans rfl, (blk_cell BK236.out 5).trans rfl⟩ (fun hHeld => ?_)
       clear hK K
       refine tnm (some 23) ?_
       refine tpu 21 (some 24) #[true, true, true, true, true, true, true, true, true, true, true, true, true, true, true, true, true, true, true, true, true, true, false] ?_
       refine tpu 22 (some 2) #[true, true, true, true, true, true, true, true, true, true, true, true, true, true, true, true, true, true, true, true, true, true, true] ?_
       refine done_ (done_of HT_.out (by kernel_rfl)) ?_
       try go_wp2
       go_ret
       exact ⟨by first | rfl | (simp [errW_none, errW_some] <;> rfl) | (simp [*, errW_none, errW_some] <;> rfl), zb⟩
      ·rw [if_neg c11] at H
       exact absurd H (by simp)
     ·rw [if_neg c9] at H
      exact absurd H (by simp)
    ·rw [if_neg c8] at H
     exact absurd H (by simp)
   ·rw [if_neg c6] at H
    exact absurd H (by simp)
  ·rw [if_neg c5] at H
   exact absurd H (by simp)
 ·rw [if_neg c3] at H
  exact absurd H (by simp)

def spec_RecordText.f (k : Nat) (a0_0 : Int) (a0_1 : Int) (a0_2 : Bool) (l0_3 : List Int) (a0_4 : Bool) (l0_5 : List Int) : Option (ByteArray) := (spec_RecordValid.f k a0_0 a0_1 a0_2 l0_3 a0_4 l0_5).bind fun t242 => (if t242 = true then ((spec_l41Text.f k a0_0 a0_1 a0_2 l0_3 a0_4 l0_5).bind fun t243 => (some t243)) else (some (⟨#[]⟩ : ByteArray)))
set_option maxHeartbeats 8000000 in
set_option maxRecDepth 100000 in
theorem spec_RecordText.calls (k : Nat) (a0_0 : Int) (a0_1 : Int) (a0_2 : Bool) (A0_3 : Option Addr) (c0_3 : Nat) (l0_3 : List Int) (a0_4 : Bool) (A0_5 : Option Addr) (c0_5 : Nat) (l0_5 : List Int) (r : ByteArray) (w : World) (hr0_3 : Kd.C (Kd.int .i64) w A0_3 l0_3.length l0_3) (hc0_3 : l0_3.length ≤ c0_3) (hr0_5 : Kd.C (Kd.int .i64) w A0_5 l0_5.length l0_5) (hc0_5 : l0_5.length ≤ c0_5) (h : spec_RecordText.f k a0_0 a0_1 a0_2 l0_3 a0_4 l0_5 = some r) :
  Calls Tryd.prog 14 #[.agg #[.int .i64 a0_0, .int .i64 a0_1, .bool a0_2, .slice A0_3 l0_3.length c0_3, .bool a0_4, .slice A0_5 l0_5.length c0_5]] w fun e w' => e = .returned (.string r) ∧ Below w.heap.size w w' := by
 have hu25 := Tryd.underlying25
 have HR0_3 := Aside0.mk hr0_3
 have HC0_3 := Aside0.mk hc0_3
 clear hr0_3 hc0_3
 have HR0_5 := Aside0.mk hr0_5
 have HC0_5 := Aside0.mk hc0_5
 clear hr0_5 hc0_5
 have HB := Aside0.mk (Below.refl w.heap.size w)
 have H : ((spec_RecordValid.f k a0_0 a0_1 a0_2 l0_3 a0_4 l0_5).bind fun t242 => (if t242 = true then ((spec_l41Text.f k a0_0 a0_1 a0_2 l0_3 a0_4 l0_5).bind fun t243 => (some t243)) else (some (⟨#[]⟩ : ByteArray)))) = some r := h
 clear h
 replace H := tbe H
 obtain ⟨t242, A2, H⟩ := H
 by_cases c3 : t242 = true
 ·subst c3
  rw [if_pos rfl] at H
  replace H := tbe H
  obtain ⟨t243, A4, H⟩ := H
  obtain rfl := Option.some.inj H
  go_enter Tryd.func14, Tryd.ntmps14
  go_wp2_with (first | ((with_reducible refine gate_dst (N := 1) rfl ?_); refine box_event ?hg (N := 1) ?hd (cs := #[.int .i64 a0_0, .int .i64 a0_1, .bool a0_2, .slice A0_3 l0_3.length c0_3, .bool a0_4, .slice A0_5 l0_5.length c0_5]) (t := 25) ?hr ?_; (case hd => rfl); (case hg => rfl); (case hr => first | (go_simp; done) | (go_simp; rfl)); intro gb241 hg w5 hbox hb; have BK241 := Aside0.mk (hbox); have GW241 := tge HB hg; have GE241 := tge HB hg; replace HB := tBs HB hb; clear hb hbox hg; obtain ⟨hcz6_0, hcz6_1, hcz6_2, hcz6_3, hcz6_4, hcz6_5, hfz6_0, hfz6_1, hfz6_2, hfz6_3, hfz6_4, hfz6_5⟩ := cells6 BK241.out) | ((with_reducible refine gate_callee (f := 37) rfl ?_); refine goesL_ (some 4) rfl rfl Tryd.func37 (by kernel_rfl) rfl #[.agg #[.int .i64 a0_0, .int .i64 a0_1, .bool a0_2, .slice A0_3 l0_3.length c0_3, .bool a0_4, .slice A0_5 l0_5.length c0_5]] rfl tq ?_; (with_reducible refine (spec_RecordValid.calls k a0_0 a0_1 a0_2 _ _ l0_3 a0_4 _ _ l0_5 true _ ?side1 ?side2 ?side3 ?side4 A2.out).mono ?_); (case side1 => exact tC (Kd.C_below HR0_3.out HB.out)); (case side2 => exact HC0_3.out); (case side3 => exact tC (Kd.C_below HR0_5.out HB.out)); (case side4 => exact HC0_5.out); rintro e w7 ⟨rfl, hb⟩; refine ⟨_, rfl, ?_⟩; replace BK241 := tBb BK241 hb; replace HB := tBs HB hb; (try clear hb); (try clear hb2); (try clear hk); (try clear hi); obtain ⟨hcz8_0, hcz8_1, hcz8_2, hcz8_3, hcz8_4, hcz8_5, hfz8_0, hfz8_1, hfz8_2, hfz8_3, hfz8_4, hfz8_5⟩ := cells6 BK241.out) | ((with_reducible refine gate_callee (f := 38) rfl ?_); refine goesL_ (some 7) rfl rfl Tryd.func38 (by kernel_rfl) rfl #[.agg #[.int .i64 a0_0, .int .i64 a0_1, .bool a0_2, .slice A0_3 l0_3.length c0_3, .bool a0_4, .slice A0_5 l0_5.length c0_5]] rfl tq ?_; (with_reducible refine (spec_l41Text.calls k a0_0 a0_1 a0_2 _ _ l0_3 a0_4 _ _ l0_5 t243 _ ?side1 ?side2 ?side3 ?side4 A4.out).mono ?_); (case side1 => exact tC (Kd.C_below HR0_3.out HB.out)); (case side2 => exact HC0_3.out); (case side3 => exact tC (Kd.C_below HR0_5.out HB.out)); (case side4 => exact HC0_5.out); rintro e w9 ⟨rfl, hb⟩; refine ⟨_, rfl, ?_⟩; replace BK241 := tBb BK241 hb; replace HB := tBs HB hb; (try clear hb); (try clear hb2); (try clear hk); (try clear hi)))
  go_ret
  exact ⟨by first | rfl | (simp [errW_none, errW_some] <;> rfl) | (simp [*, errW_none, errW_some] <;> rfl), zb⟩
 ·replace c3 := Bool.eq_false_iff.mpr c3
  subst c3
  rw [if_neg (show ¬ (false = true) by decide)] at H
  obtain rfl := Option.some.inj H
  go_enter Tryd.func14, Tryd.ntmps14
  go_wp2_with (first | ((with_reducible refine gate_dst (N := 1) rfl ?_); refine box_event ?hg (N := 1) ?hd (cs := #[.int .i64 a0_0, .int .i64 a0_1, .bool a0_2, .slice A0_3 l0_3.length c0_3, .bool a0_4, .slice A0_5 l0_5.length c0_5]) (t := 25) ?hr ?_; (case hd => rfl); (case hg => rfl); (case hr => first | (go_simp; done) | (go_simp; rfl)); intro gb241 hg w10 hbox hb; have BK241 := Aside0.mk (hbox); have GW241 := tge HB hg; have GE241 := tge HB hg; replace HB := tBs HB hb; clear hb hbox hg; obtain ⟨hcz11_0, hcz11_1, hcz11_2, hcz11_3, hcz11_4, hcz11_5, hfz11_0, hfz11_1, hfz11_2, hfz11_3, hfz11_4, hfz11_5⟩ := cells6 BK241.out) | ((with_reducible refine gate_callee (f := 37) rfl ?_); refine goesL_ (some 4) rfl rfl Tryd.func37 (by kernel_rfl) rfl #[.agg #[.int .i64 a0_0, .int .i64 a0_1, .bool a0_2, .slice A0_3 l0_3.length c0_3, .bool a0_4, .slice A0_5 l0_5.length c0_5]] rfl tq ?_; (with_reducible refine (spec_RecordValid.calls k a0_0 a0_1 a0_2 _ _ l0_3 a0_4 _ _ l0_5 false _ ?side1 ?side2 ?side3 ?side4 A2.out).mono ?_); (case side1 => exact tC (Kd.C_below HR0_3.out HB.out)); (case side2 => exact HC0_3.out); (case side3 => exact tC (Kd.C_below HR0_5.out HB.out)); (case side4 => exact HC0_5.out); rintro e w12 ⟨rfl, hb⟩; refine ⟨_, rfl, ?_⟩; replace BK241 := tBb BK241 hb; replace HB := tBs HB hb; (try clear hb); (try clear hb2); (try clear hk); (try clear hi)))
  go_ret
  exact ⟨by first | rfl | (simp [errW_none, errW_some] <;> rfl) | (simp [*, errW_none, errW_some] <;> rfl), zb⟩

end Go.Proofs.YteoicjlhkaljbaaDoor.G

namespace Go.Proofs.YteoicjlhkaljbaaDoor.G
open Go.RowKit Go.Proofs.YteoicjlhkaljbaaDoorW.PrintWords Go.Proofs.YteoicjlhkaljbaaDoorW.PrintLast Go.Proofs.YteoicjlhkaljbaaDoorW.PrintMore
attribute [local go_sem] max2_int min2_int max_two min_two max_three min_three max_four min_four   -- for this text's walks alone
set_option linter.unusedVariables false
set_option linter.unusedSimpArgs false

def laws_sameInts.l0 : Nat → List Int → List Int → Int → Option (Bool)
 | 0, _, _, _ => none
 | k + 1, x0, x1, x5 => if x5 < (x0.length : Int) then (if 0 ≤ x5 then (if x5 < (x1.length : Int) then (if (rd x0 x5) = (rd x1 x5) then (laws_sameInts.l0 k x0 x1 (wrap64 (x5 + 1))) else (some false)) else (none)) else (none)) else (some true)
def laws_sameInts.f (k : Nat) (l0 : List Int) (l1 : List Int) : Option (Bool) := if (l0.length : Int) = (l1.length : Int) then (laws_sameInts.l0 k l0 l1 0) else (some false)
set_option maxHeartbeats 8000000 in
set_option maxRecDepth 100000 in
theorem laws_sameInts.calls (k : Nat) (A0 : Option Addr) (c0 : Nat) (l0 : List Int) (A1 : Option Addr) (c1 : Nat) (l1 : List Int) (r : Bool) (w : World) (hr0 : Kd.C (Kd.int .i64) w A0 l0.length l0) (hc0 : l0.length ≤ c0) (hr1 : Kd.C (Kd.int .i64) w A1 l1.length l1) (hc1 : l1.length ≤ c1) (h : laws_sameInts.f k l0 l1 = some r) :
  Calls Tryd.prog 52 #[.slice A0 l0.length c0, .slice A1 l1.length c1] w fun e w' => e = .returned (.bool r) ∧ Drawn0 w w' := by
 have HR0 := Aside0.mk hr0
 have HC0 := Aside0.mk hc0
 clear hr0 hc0
 have HR1 := Aside0.mk hr1
 have HC1 := Aside0.mk hc1
 clear hr1 hc1
 have H : (if (l0.length : Int) = (l1.length : Int) then (laws_sameInts.l0 k l0 l1 0) else (some false)) = some r := h
 clear h
 by_cases c3 : (l0.length : Int) = (l1.length : Int)
 ·rw [if_pos c3] at H
  have c3b0 : ((l0.length : Int) == (l1.length : Int)) = true := beq_iff_eq.mpr c3
  have c3b1 : ((l0.length : Int) != (l1.length : Int)) = false := bne_eq_false_iff_eq.mpr c3
  have c3b2 : (l0.length == l1.length) = true := by first | simpa using c3 | (simp at c3 ⊢; omega)
  clear c3
  have H' := Aside0.mk H
  clear H
  go_enter Tryd.func52, Tryd.ntmps52
  go_wp2
  repeat (go_quiet (fail); try go_wp2)
  go_loopg [5] k (fun kq v5 w' => ∃ (x5_1 : Int), v5 = .int .i64 x5_1 ∧ Aside0 (laws_sameInts.l0 kq l0 l1 x5_1 = some r) ∧ Aside0 (kq ≤ k) ∧ Drawn0 w w')
  case atStart => exact ⟨(0), tr, H', ⟨Nat.le_refl _⟩, by repeat (first | exact Drawn0.refl _ | apply Drawn0.step)⟩
  case round =>
   clear H'
   try clear c1; try clear c3; try clear c3b0; try clear c3b1; try clear c3b2
   obtain ⟨x5_1, rfl, HA, HK1, ⟨m1, rfl⟩⟩ := hrel
   cases gk with
   | zero => exact absurd HA.out (by simp [laws_sameInts.l0])
   | succ k1 =>
    have H := HA.out
    clear HA
    simp only [laws_sameInts.l0] at H
    by_cases c4 : x5_1 < (l0.length : Int)
    ·rw [if_pos c4] at H
     have c4b0 : decide (x5_1 < (l0.length : Int)) = true := decide_eq_true c4
     clear c4
     by_cases c5 : 0 ≤ x5_1
     ·rw [if_pos c5] at H
      have c5b0 : decide (0 ≤ x5_1) = true := decide_eq_true c5
      clear c5
      by_cases c6 : x5_1 < (l1.length : Int)
      ·rw [if_pos c6] at H
       have c6b0 : decide (x5_1 < (l1.length : Int)) = true := decide_eq_true c6
       clear c6
       by_cases c7 : (rd l0 x5_1) = (rd l1 x5_1)
       ·rw [if_pos c7] at H
        have c7b0 : ((rd l0 x5_1) == (rd l1 x5_1)) = true := beq_iff_eq.mpr c7
        have c7b1 : ((rd l0 x5_1) != (rd l1 x5_1)) = false := bne_eq_false_iff_eq.mpr c7
        clear c7
        have H' := Aside0.mk H
        clear H
        have p454 : 0 ≤ (x5_1 : Int) := td
        have q454 : x5_1 < (l0.length : Int) := td
        obtain ⟨ad454, e454, hx454_0⟩ := Kd.at_int HR0.out x5_1 p454 q454
        cases e454
        replace p454 := eq_true p454
        replace q454 := eq_true q454
        have p455 : 0 ≤ (x5_1 : Int) := td
        have q455 : x5_1 < (l1.length : Int) := td
        obtain ⟨ad455, e455, hx455_0⟩ := Kd.at_int HR1.out x5_1 p455 q455
        cases e455
        replace p455 := eq_true p455
        replace q455 := eq_true q455
        go_wp2
        repeat (go_quiet (fail); try go_wp2)
        go_roundg k1
        case measure => have := HK1.out; omega
        case rel => exact ⟨(wrap64 (x5_1 + 1)), tr, H', ⟨by have := HK1.out; omega⟩, by repeat (first | exact Drawn0.refl _ | apply Drawn0.step)⟩
       ·rw [if_neg c7] at H
        have c7b0 : ((rd l0 x5_1) == (rd l1 x5_1)) = false := beq_eq_false_iff_ne.mpr c7
        have c7b1 : ((rd l0 x5_1) != (rd l1 x5_1)) = true := bne_iff_ne.mpr c7
        obtain rfl := Option.some.inj H
        have p454 : 0 ≤ (x5_1 : Int) := td
        have q454 : x5_1 < (l0.length : Int) := td
        obtain ⟨ad454, e454, hx454_0⟩ := Kd.at_int HR0.out x5_1 p454 q454
        cases e454
        replace p454 := eq_true p454
        replace q454 := eq_true q454
        have p455 : 0 ≤ (x5_1 : Int) := td
        have q455 : x5_1 < (l1.length : Int) := td
        obtain ⟨ad455, e455, hx455_0⟩ := Kd.at_int HR1.out x5_1 p455 q455
        cases e455
        replace p455 := eq_true p455
        replace q455 := eq_true q455
        go_wp2
        repeat (go_quiet (fail); try go_wp2)
        go_ret
        exact ⟨by first | rfl | (simp; done) | (simp [*]; done), by repeat (first | exact Drawn0.refl _ | apply Drawn0.step)⟩
      ·rw [if_neg c6] at H
       exact absurd H (by simp)
     ·rw [if_neg c5] at H
      exact absurd H (by simp)
    ·rw [if_neg c4] at H
     have c4b0 : decide (x5_1 < (l0.length : Int)) = false := decide_eq_false c4
     clear c4
     obtain rfl := Option.some.inj H
     go_wp2
     repeat (go_quiet (fail); try go_wp2)
     go_ret
     exact ⟨by first | rfl | (simp; done) | (simp [*]; done), by repeat (first | exact Drawn0.refl _ | apply Drawn0.step)⟩
 ·rw [if_neg c3] at H
  have c3b0 : ((l0.length : Int) == (l1.length : Int)) = false := beq_eq_false_iff_ne.mpr c3
  have c3b1 : ((l0.length : Int) != (l1.length : Int)) = true := bne_iff_ne.mpr c3
  have c3b2 : (l0.length == l1.length) = false := by first | simpa using c3 | (simp at c3 ⊢; omega)
  obtain rfl := Option.some.inj H
  go_enter Tryd.func52, Tryd.ntmps52
  go_wp2
  repeat (go_quiet (fail); try go_wp2)
  go_ret
  exact ⟨by first | rfl | (simp; done) | (simp [*]; done), by repeat (first | exact Drawn0.refl _ | apply Drawn0.step)⟩

def laws_sameRecord.f (k : Nat) (a0_0 : Int) (a0_1 : Int) (a0_2 : Bool) (l0_3 : List Int) (a0_4 : Bool) (l0_5 : List Int) (a1_0 : Int) (a1_1 : Int) (a1_2 : Bool) (l1_3 : List Int) (a1_4 : Bool) (l1_5 : List Int) : Option (Bool) := if a0_0 = a1_0 then (if a0_1 = a1_1 then (if (a0_2 == a1_2) = true then (if (a0_4 == a1_4) = true then ((laws_sameInts.f k l0_3 l1_3).bind fun t458 => (if t458 = true then ((laws_sameInts.f k l0_5 l1_5).bind fun t459 => (some t459)) else (some false))) else (some false)) else (some false)) else (some false)) else (some false)
set_option maxHeartbeats 8000000 in
set_option maxRecDepth 100000 in
theorem laws_sameRecord.calls (k : Nat) (a0_0 : Int) (a0_1 : Int) (a0_2 : Bool) (A0_3 : Option Addr) (c0_3 : Nat) (l0_3 : List Int) (a0_4 : Bool) (A0_5 : Option Addr) (c0_5 : Nat) (l0_5 : List Int) (a1_0 : Int) (a1_1 : Int) (a1_2 : Bool) (A1_3 : Option Addr) (c1_3 : Nat) (l1_3 : List Int) (a1_4 : Bool) (A1_5 : Option Addr) (c1_5 : Nat) (l1_5 : List Int) (r : Bool) (w : World) (hr0_3 : Kd.C (Kd.int .i64) w A0_3 l0_3.length l0_3) (hc0_3 : l0_3.length ≤ c0_3) (hr0_5 : Kd.C (Kd.int .i64) w A0_5 l0_5.length l0_5) (hc0_5 : l0_5.length ≤ c0_5) (hr1_3 : Kd.C (Kd.int .i64) w A1_3 l1_3.length l1_3) (hc1_3 : l1_3.length ≤ c1_3) (hr1_5 : Kd.C (Kd.int .i64) w A1_5 l1_5.length l1_5) (hc1_5 : l1_5.length ≤ c1_5) (h : laws_sameRecord.f k a0_0 a0_1 a0_2 l0_3 a0_4 l0_5 a1_0 a1_1 a1_2 l1_3 a1_4 l1_5 = some r) :
  Calls Tryd.prog 23 #[.agg #[.int .i64 a0_0, .int .i64 a0_1, .bool a0_2, .slice A0_3 l0_3.length c0_3, .bool a0_4, .slice A0_5 l0_5.length c0_5], .agg #[.int .i64 a1_0, .int .i64 a1_1, .bool a1_2, .slice A1_3 l1_3.length c1_3, .bool a1_4, .slice A1_5 l1_5.length c1_5]] w fun e w' => e = .returned (.bool r) ∧ Below w.heap.size w w' := by
 have hu25 := Tryd.underlying25
 have HR0_3 := Aside0.mk hr0_3
 have HC0_3 := Aside0.mk hc0_3
 clear hr0_3 hc0_3
 have HR0_5 := Aside0.mk hr0_5
 have HC0_5 := Aside0.mk hc0_5
 clear hr0_5 hc0_5
 have HR1_3 := Aside0.mk hr1_3
 have HC1_3 := Aside0.mk hc1_3
 clear hr1_3 hc1_3
 have HR1_5 := Aside0.mk hr1_5
 have HC1_5 := Aside0.mk hc1_5
 clear hr1_5 hc1_5
 have HB := Aside0.mk (Below.refl w.heap.size w)
 have H : (if a0_0 = a1_0 then (if a0_1 = a1_1 then (if (a0_2 == a1_2) = true then (if (a0_4 == a1_4) = true then ((laws_sameInts.f k l0_3 l1_3).bind fun t458 => (if t458 = true then ((laws_sameInts.f k l0_5 l1_5).bind fun t459 => (some t459)) else (some false))) else (some false)) else (some false)) else (some false)) else (some false)) = some r := h
 clear h
 by_cases c3 : a0_0 = a1_0
 ·rw [if_pos c3] at H
  have c3b0 : (a0_0 == a1_0) = true := beq_iff_eq.mpr c3
  have c3b1 : (a0_0 != a1_0) = false := bne_eq_false_iff_eq.mpr c3
  clear c3
  by_cases c4 : a0_1 = a1_1
  ·rw [if_pos c4] at H
   have c4b0 : (a0_1 == a1_1) = true := beq_iff_eq.mpr c4
   have c4b1 : (a0_1 != a1_1) = false := bne_eq_false_iff_eq.mpr c4
   clear c4
   by_cases c5 : (a0_2 == a1_2) = true
   ·rw [if_pos c5] at H
    have c5b0 : (a0_2 == a1_2) = true := c5
    (try (have c5b1 : decide (a0_2 = a1_2) = true := by simpa using c5))
    (try (have c5b2 : (a0_2 == a1_2) = true := by simpa using c5))
    clear c5
    by_cases c6 : (a0_4 == a1_4) = true
    ·rw [if_pos c6] at H
     have c6b0 : (a0_4 == a1_4) = true := c6
     (try (have c6b1 : decide (a0_4 = a1_4) = true := by simpa using c6))
     (try (have c6b2 : (a0_4 == a1_4) = true := by simpa using c6))
     clear c6
     replace H := tbe H
     obtain ⟨t458, A7, H⟩ := H
     by_cases c8 : t458 = true
     ·subst c8
      rw [if_pos rfl] at H
      replace H := tbe H
      obtain ⟨t459, A9, H⟩ := H
      obtain rfl := Option.some.inj H
      go_enter Tryd.func23, Tryd.ntmps23
      go_wp2_with (first | ((with_reducible refine gate_dst (N := 2) rfl ?_); refine box_event ?hg (N := 2) ?hd (cs := #[.int .i64 a0_0, .int .i64 a0_1, .bool a0_2, .slice A0_3 l0_3.length c0_3, .bool a0_4, .slice A0_5 l0_5.length c0_5]) (t := 25) ?hr ?_; (case hd => rfl); (case hg => rfl); (case hr => first | (go_simp; done) | (go_simp; rfl)); intro gb456 hg w10 hbox hb; have BK456 := Aside0.mk (hbox); have GW456 := tge HB hg; have GE456 := tge HB hg; replace HB := tBs HB hb; clear hb hbox hg) | ((with_reducible refine gate_dst (N := 3) rfl ?_); refine box_event ?hg (N := 3) ?hd (cs := #[.int .i64 a1_0, .int .i64 a1_1, .bool a1_2, .slice A1_3 l1_3.length c1_3, .bool a1_4, .slice A1_5 l1_5.length c1_5]) (t := 25) ?hr ?_; (case hd => rfl); (case hg => rfl); (case hr => first | (go_simp; done) | (go_simp; rfl)); intro gb457 hg w11 hbox hb; have BK457 := Aside0.mk (hbox); have GW457 := tge HB hg; have GE457 := tge HB hg; replace HB := tBs HB hb; have NB456_457 := tlt BK456 hg; have NB457_456 := tgt BK456 hg; replace BK456 := tBb BK456 hb; clear hb hbox hg; have hnb12 := NB456_457.out; have hnc12 := NB457_456.out; obtain ⟨hcz13_0, hcz13_1, hcz13_2, hcz13_3, hcz13_4, hcz13_5, hfz13_0, hfz13_1, hfz13_2, hfz13_3, hfz13_4, hfz13_5⟩ := cells6 BK456.out; obtain ⟨hcz14_0, hcz14_1, hcz14_2, hcz14_3, hcz14_4, hcz14_5, hfz14_0, hfz14_1, hfz14_2, hfz14_3, hfz14_4, hfz14_5⟩ := cells6 BK457.out) | (go_at_call 52; (with_reducible refine (laws_sameInts.calls k _ _ l0_3 _ _ l1_3 true _ ?side1 ?side2 ?side3 ?side4 A7.out).mono ?_); (case side1 => exact tC (Kd.C_below HR0_3.out HB.out)); (case side2 => exact HC0_3.out); (case side3 => exact tC (Kd.C_below HR1_3.out HB.out)); (case side4 => exact HC1_3.out); rintro e w' ⟨rfl, ⟨nd, rfl⟩⟩) | (go_at_call 52; (with_reducible refine (laws_sameInts.calls k _ _ l0_5 _ _ l1_5 t459 _ ?side1 ?side2 ?side3 ?side4 A9.out).mono ?_); (case side1 => exact tC (Kd.C_below HR0_5.out zb)); (case side2 => exact HC0_5.out); (case side3 => exact tC (Kd.C_below HR1_5.out zb)); (case side4 => exact HC1_5.out); rintro e w' ⟨rfl, ⟨nd, rfl⟩⟩))
      go_ret
      exact ⟨by first | rfl | (simp [errW_none, errW_some] <;> rfl) | (simp [*, errW_none, errW_some] <;> rfl), zb⟩
     ·replace c8 := Bool.eq_false_iff.mpr c8
      subst c8
      rw [if_neg (show ¬ (false = true) by decide)] at H
      obtain rfl := Option.some.inj H
      go_enter Tryd.func23, Tryd.ntmps23
      go_wp2_with (first | ((with_reducible refine gate_dst (N := 2) rfl ?_); refine box_event ?hg (N := 2) ?hd (cs := #[.int .i64 a0_0, .int .i64 a0_1, .bool a0_2, .slice A0_3 l0_3.length c0_3, .bool a0_4, .slice A0_5 l0_5.length c0_5]) (t := 25) ?hr ?_; (case hd => rfl); (case hg => rfl); (case hr => first | (go_simp; done) | (go_simp; rfl)); intro gb456 hg w15 hbox hb; have BK456 := Aside0.mk (hbox); have GW456 := tge HB hg; have GE456 := tge HB hg; replace HB := tBs HB hb; clear hb hbox hg) | ((with_reducible refine gate_dst (N := 3) rfl ?_); refine box_event ?hg (N := 3) ?hd (cs := #[.int .i64 a1_0, .int .i64 a1_1, .bool a1_2, .slice A1_3 l1_3.length c1_3, .bool a1_4, .slice A1_5 l1_5.length c1_5]) (t := 25) ?hr ?_; (case hd => rfl); (case hg => rfl); (case hr => first | (go_simp; done) | (go_simp; rfl)); intro gb457 hg w16 hbox hb; have BK457 := Aside0.mk (hbox); have GW457 := tge HB hg; have GE457 := tge HB hg; replace HB := tBs HB hb; have NB456_457 := tlt BK456 hg; have NB457_456 := tgt BK456 hg; replace BK456 := tBb BK456 hb; clear hb hbox hg; have hnb17 := NB456_457.out; have hnc17 := NB457_456.out; obtain ⟨hcz18_0, hcz18_1, hcz18_2, hcz18_3, hcz18_4, hcz18_5, hfz18_0, hfz18_1, hfz18_2, hfz18_3, hfz18_4, hfz18_5⟩ := cells6 BK456.out; obtain ⟨hcz19_0, hcz19_1, hcz19_2, hcz19_3, hcz19_4, hcz19_5, hfz19_0, hfz19_1, hfz19_2, hfz19_3, hfz19_4, hfz19_5⟩ := cells6 BK457.out) | (go_at_call 52; (with_reducible refine (laws_sameInts.calls k _ _ l0_3 _ _ l1_3 false _ ?side1 ?side2 ?side3 ?side4 A7.out).mono ?_); (case side1 => exact tC (Kd.C_below HR0_3.out HB.out)); (case side2 => exact HC0_3.out); (case side3 => exact tC (Kd.C_below HR1_3.out HB.out)); (case side4 => exact HC1_3.out); rintro e w' ⟨rfl, ⟨nd, rfl⟩⟩))
      go_ret
      exact ⟨by first | rfl | (simp [errW_none, errW_some] <;> rfl) | (simp [*, errW_none, errW_some] <;> rfl), zb⟩
    ·rw [if_neg c6] at H
     have c6b0 : (a0_4 == a1_4) = false := by simpa using c6
     (try (have c6b1 : decide (a0_4 = a1_4) = false := by simpa using c6))
     (try (have c6b2 : (a0_4 == a1_4) = false := by simpa using c6))
     (try (have c6b3 : ¬ (a0_4 = a1_4) := by simpa using c6))
     clear c6
     obtain rfl := Option.some.inj H
     go_enter Tryd.func23, Tryd.ntmps23
     go_wp2_with (first | ((with_reducible refine gate_dst (N := 2) rfl ?_); refine box_event ?hg (N := 2) ?hd (cs := #[.int .i64 a0_0, .int .i64 a0_1, .bool a0_2, .slice A0_3 l0_3.length c0_3, .bool a0_4, .slice A0_5 l0_5.length c0_5]) (t := 25) ?hr ?_; (case hd => rfl); (case hg => rfl); (case hr => first | (go_simp; done) | (go_simp; rfl)); intro gb456 hg w20 hbox hb; have BK456 := Aside0.mk (hbox); have GW456 := tge HB hg; have GE456 := tge HB hg; replace HB := tBs HB hb; clear hb hbox hg) | ((with_reducible refine gate_dst (N := 3) rfl ?_); refine box_event ?hg (N := 3) ?hd (cs := #[.int .i64 a1_0, .int .i64 a1_1, .bool a1_2, .slice A1_3 l1_3.length c1_3, .bool a1_4, .slice A1_5 l1_5.length c1_5]) (t := 25) ?hr ?_; (case hd => rfl); (case hg => rfl); (case hr => first | (go_simp; done) | (go_simp; rfl)); intro gb457 hg w21 hbox hb; have BK457 := Aside0.mk (hbox); have GW457 := tge HB hg; have GE457 := tge HB hg; replace HB := tBs HB hb; have NB456_457 := tlt BK456 hg; have NB457_456 := tgt BK456 hg; replace BK456 := tBb BK456 hb; clear hb hbox hg; have hnb22 := NB456_457.out; have hnc22 := NB457_456.out; obtain ⟨hcz23_0, hcz23_1, hcz23_2, hcz23_3, hcz23_4, hcz23_5, hfz23_0, hfz23_1, hfz23_2, hfz23_3, hfz23_4, hfz23_5⟩ := cells6 BK456.out; obtain ⟨hcz24_0, hcz24_1, hcz24_2, hcz24_3, hcz24_4, hcz24_5, hfz24_0, hfz24_1, hfz24_2, hfz24_3, hfz24_4, hfz24_5⟩ := cells6 BK457.out))
     go_ret
     exact ⟨by first | rfl | (simp [errW_none, errW_some] <;> rfl) | (simp [*, errW_none, errW_some] <;> rfl), zb⟩
   ·rw [if_neg c5] at H
    have c5b0 : (a0_2 == a1_2) = false := by simpa using c5
    (try (have c5b1 : decide (a0_2 = a1_2) = false := by simpa using c5))
    (try (have c5b2 : (a0_2 == a1_2) = false := by simpa using c5))
    (try (have c5b3 : ¬ (a0_2 = a1_2) := by simpa using c5))
    clear c5
    obtain rfl := Option.some.inj H
    go_enter Tryd.func23, Tryd.ntmps23
    go_wp2_with (first | ((with_reducible refine gate_dst (N := 2) rfl ?_); refine box_event ?hg (N := 2) ?hd (cs := #[.int .i64 a0_0, .int .i64 a0_1, .bool a0_2, .slice A0_3 l0_3.length c0_3, .bool a0_4, .slice A0_5 l0_5.length c0_5]) (t := 25) ?hr ?_; (case hd => rfl); (case hg => rfl); (case hr => first | (go_simp; done) | (go_simp; rfl)); intro gb456 hg w25 hbox hb; have BK456 := Aside0.mk (hbox); have GW456 := tge HB hg; have GE456 := tge HB hg; replace HB := tBs HB hb; clear hb hbox hg) | ((with_reducible refine gate_dst (N := 3) rfl ?_); refine box_event ?hg (N := 3) ?hd (cs := #[.int .i64 a1_0, .int .i64 a1_1, .bool a1_2, .slice A1_3 l1_3.length c1_3, .bool a1_4, .slice A1_5 l1_5.length c1_5]) (t := 25) ?hr ?_; (case hd => rfl); (case hg => rfl); (case hr => first | (go_simp; done) | (go_simp; rfl)); intro gb457 hg w26 hbox hb; have BK457 := Aside0.mk (hbox); have GW457 := tge HB hg; have GE457 := tge HB hg; replace HB := tBs HB hb; have NB456_457 := tlt BK456 hg; have NB457_456 := tgt BK456 hg; replace BK456 := tBb BK456 hb; clear hb hbox hg; have hnb27 := NB456_457.out; have hnc27 := NB457_456.out; obtain ⟨hcz28_0, hcz28_1, hcz28_2, hcz28_3, hcz28_4, hcz28_5, hfz28_0, hfz28_1, hfz28_2, hfz28_3, hfz28_4, hfz28_5⟩ := cells6 BK456.out; obtain ⟨hcz29_0, hcz29_1, hcz29_2, hcz29_3, hcz29_4, hcz29_5, hfz29_0, hfz29_1, hfz29_2, hfz29_3, hfz29_4, hfz29_5⟩ := cells6 BK457.out))
    go_ret
    exact ⟨by first | rfl | (simp [errW_none, errW_some] <;> rfl) | (simp [*, errW_none, errW_some] <;> rfl), zb⟩
  ·rw [if_neg c4] at H
   have c4b0 : (a0_1 == a1_1) = false := beq_eq_false_iff_ne.mpr c4
   have c4b1 : (a0_1 != a1_1) = true := bne_iff_ne.mpr c4
   obtain rfl := Option.some.inj H
   go_enter Tryd.func23, Tryd.ntmps23
   go_wp2_with (first | ((with_reducible refine gate_dst (N := 2) rfl ?_); refine box_event ?hg (N := 2) ?hd (cs := #[.int .i64 a0_0, .int .i64 a0_1, .bool a0_2, .slice A0_3 l0_3.length c0_3, .bool a0_4, .slice A0_5 l0_5.length c0_5]) (t := 25) ?hr ?_; (case hd => rfl); (case hg => rfl); (case hr => first | (go_simp; done) | (go_simp; rfl)); intro gb456 hg w30 hbox hb; have BK456 := Aside0.mk (hbox); have GW456 := tge HB hg; have GE456 := tge HB hg; replace HB := tBs HB hb; clear hb hbox hg) | ((with_reducible refine gate_dst (N := 3) rfl ?_); refine box_event ?hg (N := 3) ?hd (cs := #[.int .i64 a1_0, .int .i64 a1_1, .bool a1_2, .slice A1_3 l1_3.length c1_3, .bool a1_4, .slice A1_5 l1_5.length c1_5]) (t := 25) ?hr ?_; (case hd => rfl); (case hg => rfl); (case hr => first | (go_simp; done) | (go_simp; rfl)); intro gb457 hg w31 hbox hb; have BK457 := Aside0.mk (hbox); have GW457 := tge HB hg; have GE457 := tge HB hg; replace HB := tBs HB hb; have NB456_457 := tlt BK456 hg; have NB457_456 := tgt BK456 hg; replace BK456 := tBb BK456 hb; clear hb hbox hg; have hnb32 := NB456_457.out; have hnc32 := NB457_456.out; obtain ⟨hcz33_0, hcz33_1, hcz33_2, hcz33_3, hcz33_4, hcz33_5, hfz33_0, hfz33_1, hfz33_2, hfz33_3, hfz33_4, hfz33_5⟩ := cells6 BK456.out; obtain ⟨hcz34_0, hcz34_1, hcz34_2, hcz34_3, hcz34_4, hcz34_5, hfz34_0, hfz34_1, hfz34_2, hfz34_3, hfz34_4, hfz34_5⟩ := cells6 BK457.out))
   go_ret
   exact ⟨by first | rfl | (simp [errW_none, errW_some] <;> rfl) | (simp [*, errW_none, errW_some] <;> rfl), zb⟩
 ·rw [if_neg c3] at H
  have c3b0 : (a0_0 == a1_0) = false := beq_eq_false_iff_ne.mpr c3
  have c3b1 : (a0_0 != a1_0) = true := bne_iff_ne.mpr c3
  obtain rfl := Option.some.inj H
  go_enter Tryd.func23, Tryd.ntmps23
  go_wp2_with (first | ((with_reducible refine gate_dst (N := 2) rfl ?_); refine box_event ?hg (N := 2) ?hd (cs := #[.int .i64 a0_0, .int .i64 a0_1, .bool a0_2, .slice A0_3 l0_3.length c0_3, .bool a0_4, .slice A0_5 l0_5.length c0_5]) (t := 25) ?hr ?_; (case hd => rfl); (case hg => rfl); (case hr => first | (go_simp; done) | (go_simp; rfl)); intro gb456 hg w35 hbox hb; have BK456 := Aside0.mk (hbox); have GW456 := tge HB hg; have GE456 := tge HB hg; replace HB := tBs HB hb; clear hb hbox hg) | ((with_reducible refine gate_dst (N := 3) rfl ?_); refine box_event ?hg (N := 3) ?hd (cs := #[.int .i64 a1_0, .int .i64 a1_1, .bool a1_2, .slice A1_3 l1_3.length c1_3, .bool a1_4, .slice A1_5 l1_5.length c1_5]) (t := 25) ?hr ?_; (case hd => rfl); (case hg => rfl); (case hr => first | (go_simp; done) | (go_simp; rfl)); intro gb457 hg w36 hbox hb; have BK457 := Aside0.mk (hbox); have GW457 := tge HB hg; have GE457 := tge HB hg; replace HB := tBs HB hb; have NB456_457 := tlt BK456 hg; have NB457_456 := tgt BK456 hg; replace BK456 := tBb BK456 hb; clear hb hbox hg; have hnb37 := NB456_457.out; have hnc37 := NB457_456.out; obtain ⟨hcz38_0, hcz38_1, hcz38_2, hcz38_3, hcz38_4, hcz38_5, hfz38_0, hfz38_1, hfz38_2, hfz38_3, hfz38_4, hfz38_5⟩ := cells6 BK456.out; obtain ⟨hcz39_0, hcz39_1, hcz39_2, hcz39_3, hcz39_4, hcz39_5, hfz39_0, hfz39_1, hfz39_2, hfz39_3, hfz39_4, hfz39_5⟩ := cells6 BK457.out))
  go_ret
  exact ⟨by first | rfl | (simp [errW_none, errW_some] <;> rfl) | (simp [*, errW_none, errW_some] <;> rfl), zb⟩

end Go.Proofs.YteoicjlhkaljbaaDoor.G

namespace Go.Proofs.YteoicjlhkaljbaaDoor.G
open Go.RowKit Go.Proofs.YteoicjlhkaljbaaDoorW.PrintWords Go.Proofs.YteoicjlhkaljbaaDoorW.PrintLast Go.Proofs.YteoicjlhkaljbaaDoorW.PrintMore
attribute [local go_sem] max2_int min2_int max_two min_two max_three min_three max_four min_four   -- for this text's walks alone
set_option linter.unusedVariables false
set_option linter.unusedSimpArgs false

def laws_FnRecordText.j0 : Nat → ByteArray → ByteArray → Bool → Int → Int → Bool → List Int → Bool → List Int → Option (Bool)
 | 0, _, _, _, _, _, _, _, _, _ => none
 | k + 1, x4, x5, x23, x534000, x534001, x534002, x534003, x534004, x534005 => if x23 = true then (some (x4.toList == x5.toList)) else ((impl_RecordOf.f k x4).bind fun bt536 => (if bt536.2.2.2.2.2.2 = true then ((laws_sameRecord.f k bt536.1 bt536.2.1 bt536.2.2.1 bt536.2.2.2.1 bt536.2.2.2.2.1 bt536.2.2.2.2.2.1 x534000 x534001 x534002 x534003 x534004 x534005).bind fun t548 => (some t548)) else (some false)))
def laws_FnRecordText.f (k : Nat) (l0 : List Int) : Option (Bool) := if (l0.length : Int) > 1048576 then (some true) else ((spec_DrawRecordText.f k l0).bind fun bt523 => ((impl_RecordText.f k bt523.1 bt523.2.1 bt523.2.2.1 bt523.2.2.2.1 bt523.2.2.2.2.1 bt523.2.2.2.2.2).bind fun t534 => ((spec_RecordText.f k bt523.1 bt523.2.1 bt523.2.2.1 bt523.2.2.2.1 bt523.2.2.2.2.1 bt523.2.2.2.2.2).bind fun t535 => (if t534.toList = t535.toList then (laws_FnRecordText.j0 k t534 t535 (t535.toList == ([] : List UInt8)) bt523.1 bt523.2.1 bt523.2.2.1 bt523.2.2.2.1 bt523.2.2.2.2.1 bt523.2.2.2.2.2) else (laws_FnRecordText.j0 k t534 t535 true bt523.1 bt523.2.1 bt523.2.2.1 bt523.2.2.2.1 bt523.2.2.2.2.1 bt523.2.2.2.2.2)))))
set_option maxHeartbeats 40000000 in
set_option maxRecDepth 100000 in
theorem laws_FnRecordText.calls [ErrA] (k : Nat) (A0 : Option Addr) (c0 : Nat) (l0 : List Int) (r : Bool) (w : World) (hE : ErrOk [0, 1] w) (hr0 : Kd.C (Kd.int .u8) w A0 l0.length l0) (hc0 : l0.length ≤ c0) (h : laws_FnRecordText.f k l0 = some r) :
  Calls Tryd.prog 7 #[.slice A0 l0.length c0] w fun e w' => e = .returned (.bool r) ∧ Below w.heap.size w w' := by
 have HE := Aside0.mk hE
 clear hE
 have hu25 := Tryd.underlying25
 have HR0 := Aside0.mk hr0
 have HC0 := Aside0.mk hc0
 clear hr0 hc0
 have HB := Aside0.mk (Below.refl w.heap.size w)
 have H : (if (l0.length : Int) > 1048576 then (some true) else ((spec_DrawRecordText.f k l0).bind fun bt523 => ((impl_RecordText.f k bt523.1 bt523.2.1 bt523.2.2.1 bt523.2.2.2.1 bt523.2.2.2.2.1 bt523.2.2.2.2.2).bind fun t534 => ((spec_RecordText.f k bt523.1 bt523.2.1 bt523.2.2.1 bt523.2.2.2.1 bt523.2.2.2.2.1 bt523.2.2.2.2.2).bind fun t535 => (if t534.toList = t535.toList then (laws_FnRecordText.j0 k t534 t535 (t535.toList == ([] : List UInt8)) bt523.1 bt523.2.1 bt523.2.2.1 bt523.2.2.2.1 bt523.2.2.2.2.1 bt523.2.2.2.2.2) else (laws_FnRecordText.j0 k t534 t535 true bt523.1 bt523.2.1 bt523.2.2.1 bt523.2.2.2.1 bt523.2.2.2.2.1 bt523.2.2.2.2.2)))))) = some r := h
 clear h
 by_cases c2 : (l0.length : Int) > 1048576
 ·rw [if_pos c2] at H
  have c2b0 : decide (1048576 < (l0.length : Int)) = true := decide_eq_true c2
  have c2b1 : decide (1048576 < l0.length) = true := decide_eq_true (by omega)
  clear c2
  obtain rfl := Option.some.inj H
  go_enter Tryd.func7, Tryd.ntmps7
  go_wp2
  all_goals go_ret
  all_goals exact ⟨by first | rfl | (simp [errW_none, errW_some] <;> rfl) | (simp [*, errW_none, errW_some] <;> rfl), zb⟩
 ·rw [if_neg c2] at H
  have c2b0 : decide (1048576 < (l0.length : Int)) = false := decide_eq_false c2
  have c2b1 : decide (1048576 < l0.length) = false := decide_eq_false (by omega)
  clear c2
  replace H := tbe H
  obtain ⟨⟨t523, t524, t525, t526, t529, t530⟩, A3, H⟩ := H
  dsimp only at H
  replace H := tbe H
  obtain ⟨t534, A4, H⟩ := H
  replace H := tbe H
  obtain ⟨t535, A5, H⟩ := H
  have HC6 := Aside0.mk H
  clear H
  go_enter Tryd.func7, Tryd.ntmps7
  go_upto_region 6 with (first | ((with_reducible refine gate_callee (f := 12) rfl ?_); refine goesL_ (some 12) rfl rfl Tryd.func12 (by kernel_rfl) rfl #[.slice A0 l0.length c0] rfl tq ?_; (with_reducible refine (spec_DrawRecordText.calls k _ _ l0 t523 t524 t525 t526 t529 t530 _ ?side1 ?side2 A3.out).mono ?_); (case side1 => exact tC HR0.out); (case side2 => exact HC0.out); rintro e w7 ⟨v527, v531, rfl, ho0, ho1, hb⟩; have u_v527 := tsv Tryd.prog v527 ho0; have u_v531 := tsv Tryd.prog v531 ho1; refine ⟨_, rfl, ?_⟩; have HO528 := tRl ho0 HB; have HO532 := tRl ho1 HB; replace HB := tBs HB hb; (try clear hb); (try clear hb2); (try clear hk); (try clear hi); (try clear ho0); (try clear ho1)) | ((with_reducible refine gate_dst (N := 3) rfl ?_); refine box_event ?hg (N := 3) ?hd (cs := #[.int .i64 0, .int .i64 0, .bool false, .slice none 0 0, .bool false, .slice none 0 0]) (t := 25) ?hr ?_; (case hd => rfl); (case hg => rfl); (case hr => first | (go_simp; done) | (go_simp; rfl)); intro gb533 hg w8 hbox hb; replace HO528 := tRb HO528 hb; replace HO532 := tRb HO532 hb; have BK533 := Aside0.mk (hbox); have GW533 := tge HB hg; have GE533 := tge HB hg; replace HB := tBs HB hb; clear hb hbox hg; obtain ⟨hcz9_0, hcz9_1, hcz9_2, hcz9_3, hcz9_4, hcz9_5, hfz9_0, hfz9_1, hfz9_2, hfz9_3, hfz9_4, hfz9_5⟩ := cells6 BK533.out; obtain ⟨Ao10, co10, eo10⟩ := Kd.R_slice HO528.out; subst eo10; obtain ⟨Ao11, co11, eo11⟩ := Kd.R_slice HO532.out; subst eo11) | ((with_reducible refine gate_callee (f := 13) rfl ?_); refine goesL_ (some 14) rfl rfl Tryd.func13 (by kernel_rfl) rfl #[.agg #[.int .i64 t523, .int .i64 t524, .bool t525, .slice Ao10 t526.length co10, .bool t529, .slice Ao11 t530.length co11]] rfl tq ?_; (with_reducible refine (impl_RecordText.calls (hE := ?sideE) k t523 t524 t525 _ _ t526 t529 _ _ t530 t534 _ ?side1 ?side2 ?side3 ?side4 A4.out).mono ?_); (case sideE => exact ErrOk.below (HE.out.sub (by decide)) zb); (case side1 => refine (Kd.R_reads' (e := 3) (base := w.heap.size) (ok := fun k_ => some k_ ≠ (.slice Ao11 t530.length co11 : Value).ownBlock) (n := t526.length) (c := co10) ?_).2.2; exact (tRt HO528.out BK533.out)); (case side2 => exact (Kd.R_reads' HO528.out).2.1); (case side3 => refine (Kd.R_reads' (e := 3) (base := w.heap.size) (ok := fun k_ => some k_ ≠ (.slice Ao10 t526.length co10 : Value).ownBlock) (n := t530.length) (c := co11) ?_).2.2; exact (tRt HO532.out BK533.out)); (case side4 => exact (Kd.R_reads' HO532.out).2.1); rintro e w12 ⟨rfl, hb⟩; refine ⟨_, rfl, ?_⟩; replace HO528 := Aside0.mk (Kd.R_below (tRt HO528.out BK533.out) hb); replace HO532 := Aside0.mk (Kd.R_below (tRt HO532.out BK533.out) hb); replace BK533 := tBp (o' := .cells #[.int .i64 t523, .int .i64 t524, .bool t525, .slice Ao10 t526.length co10, .bool t529, .slice Ao11 t530.length co11] 25 (0, 0)) BK533 hb; replace HB := tBs HB hb; (try clear hb); (try clear hb2); (try clear hk); (try clear hi); obtain ⟨hcz13_0, hcz13_1, hcz13_2, hcz13_3, hcz13_4, hcz13_5, hfz13_0, hfz13_1, hfz13_2, hfz13_3, hfz13_4, hfz13_5⟩ := cells6 BK533.out) | ((with_reducible refine gate_callee (f := 14) rfl ?_); refine goesL_ (some 16) rfl rfl Tryd.func14 (by kernel_rfl) rfl #[.agg #[.int .i64 t523, .int .i64 t524, .bool t525, .slice Ao10 t526.length co10, .bool t529, .slice Ao11 t530.length co11]] rfl tq ?_; (with_reducible refine (spec_RecordText.calls k t523 t524 t525 _ _ t526 t529 _ _ t530 t535 _ ?side1 ?side2 ?side3 ?side4 A5.out).mono ?_); (case side1 => repeat (first | exact (Kd.R_reads' HO528.out).2.2 | (with_reducible refine Kd.C_alloc ?_ _) | (with_reducible refine Kd.C_drewN ?_ _) | (with_reducible refine Kd.C_drew ?_))); (case side2 => exact (Kd.R_reads' HO528.out).2.1); (case side3 => repeat (first | exact (Kd.R_reads' HO532.out).2.2 | (with_reducible refine Kd.C_alloc ?_ _) | (with_reducible refine Kd.C_drewN ?_ _) | (with_reducible refine Kd.C_drew ?_))); (case side4 => exact (Kd.R_reads' HO532.out).2.1); rintro e w14 ⟨rfl, hb⟩; refine ⟨_, rfl, ?_⟩; replace HO528 := tRb HO528 hb; replace HO532 := tRb HO532 hb; replace BK533 := tBb BK533 hb; replace HB := tBs HB hb; (try clear hb); (try clear hb2); (try clear hk); (try clear hi)))
  (try simp only [Act.put, List.setIfInBounds_toArray, List.set_cons_zero, List.set_cons_succ])
  go_cut [23] (fun v23 wc => ∃ (kq : Nat) (x23_5 : Bool), v23 = .bool x23_5 ∧ Aside0 (laws_FnRecordText.j0 kq t534 t535 x23_5 t523 t524 t525 t526 t529 t530 = some r) ∧ Aside0 (kq ≤ k) ∧ Aside0 (Kd.R (Kd.int .i64) 3 wc w.heap.size (fun k_ => some k_ ≠ ((.slice Ao11 t530.length co11) : Value).ownBlock) (.slice Ao10 t526.length co10) t526) ∧ Aside0 (Kd.R (Kd.int .i64) 3 wc w.heap.size (fun k_ => some k_ ≠ ((.slice Ao10 t526.length co10) : Value).ownBlock) (.slice Ao11 t530.length co11) t530) ∧ Aside0 (wc.heap[gb533]? = some (.cells #[.int .i64 t523, .int .i64 t524, .bool t525, (.slice Ao10 t526.length co10), .bool t529, (.slice Ao11 t530.length co11)] 25 (0, 0))) ∧ Aside0 (Below w.heap.size w wc))
  case first =>
   have H := HC6.out
   clear HC6
   by_cases c15 : t534.toList = t535.toList
   ·rw [if_pos c15] at H
    have c15b0 : (t534.toList == t535.toList) = true := beq_iff_eq.mpr c15
    have c15b1 : (t534.toList != t535.toList) = false := bne_eq_false_iff_eq.mpr c15
    clear c15
    (first | rw [c15b0] | (simp only [i64_w, i32_w]; rw [c15b0]) | skip)
    have H' := Aside0.mk H
    clear H
    go_wp2
    go_meet
    case rel => exact ⟨_, ((t535.toList == ([] : List UInt8))), tr, H', ⟨by first | omega | exact Nat.le_refl _⟩, ⟨tR HO528.out⟩, ⟨tR HO532.out⟩, ⟨tH BK533.out⟩, ⟨zb⟩⟩
   ·rw [if_neg c15] at H
    have c15b0 : (t534.toList == t535.toList) = false := beq_eq_false_iff_ne.mpr c15
    have c15b1 : (t534.toList != t535.toList) = true := bne_iff_ne.mpr c15
    (first | rw [c15b0] | (simp only [i64_w, i32_w]; rw [c15b0]) | skip)
    have H' := Aside0.mk H
    clear H
    go_wp2
    go_meet
    case rel => exact ⟨_, (true), tr, H', ⟨by first | omega | exact Nat.le_refl _⟩, ⟨tR HO528.out⟩, ⟨tR HO532.out⟩, ⟨tH BK533.out⟩, ⟨zb⟩⟩
  case rest =>
   clear HC6
   try clear c2; try clear c2b0; try clear c2b1; try clear hcz13_0; try clear hcz13_1; try clear hcz13_2; try clear hcz13_3; try clear hcz13_4; try clear hcz13_5; try clear hcz9_0; try clear hcz9_1; try clear hcz9_2; try clear hcz9_3; try clear hcz9_4; try clear hcz9_5; try clear hfz13_0; try clear hfz13_1; try clear hfz13_2; try clear hfz13_3; try clear hfz13_4; try clear hfz13_5; try clear hfz9_0; try clear hfz9_1; try clear hfz9_2; try clear hfz9_3; try clear hfz9_4; try clear hfz9_5
   obtain ⟨kq, x23_5, rfl, HA, HJ5, HO_534003, HO_534005, BK533, HB⟩ := hcut
   cases kq with
   | zero => exact absurd HA.out (by simp [laws_FnRecordText.j0])
   | succ kj5 =>
    have H := HA.out
    clear HA
    simp only [laws_FnRecordText.j0] at H
    by_cases c16 : x23_5 = true
    ·subst c16
     rw [if_pos rfl] at H
     obtain rfl := Option.some.inj H
     go_wp2
     all_goals go_ret
     all_goals exact ⟨by first | rfl | (simp [errW_none, errW_some] <;> rfl) | (simp [*, errW_none, errW_some] <;> rfl), zb⟩
    ·replace c16 := Bool.eq_false_iff.mpr c16
     subst c16
     rw [if_neg (show ¬ (false = true) by decide)] at H
     replace H := tbe H
     obtain ⟨⟨t536, t537, t538, t539, t542, t543, t546⟩, A17, H⟩ := H
     dsimp only at H
     by_cases c18 : t546 = true
     ·subst c18
      rw [if_pos rfl] at H
      replace H := tbe H
      obtain ⟨t548, A19, H⟩ := H
      obtain rfl := Option.some.inj H
      go_wp2_with (first | ((with_reducible refine gate_callee (f := 19) rfl ?_); refine goesL_ (some 29) rfl rfl Tryd.func19 (by kernel_rfl) rfl #[.string t534] rfl tq ?_; (with_reducible refine (impl_RecordOf.calls (hE := ?sideE) kj5 t534 t536 t537 t538 t539 t542 t543 true _ A17.out).mono ?_); (case sideE => exact ErrOk.below (HE.out.sub (by decide)) zb); rintro e w20 ⟨v540, v544, rfl, ho0, ho1, hb⟩; have u_v540 := tsv Tryd.prog v540 ho0; have u_v544 := tsv Tryd.prog v544 ho1; refine ⟨_, rfl, ?_⟩; have HO541 := Aside0.mk (Kd.R_lower (Kd.R_new' (Kd.R_new' ho0 (Kd.R_lt (tR HO_534003.out))) (Kd.R_lt (tR HO_534005.out))) (below_size zb)); have HO545 := Aside0.mk (Kd.R_lower (Kd.R_new' (Kd.R_new' ho1 (Kd.R_lt (tR HO_534003.out))) (Kd.R_lt (tR HO_534005.out))) (below_size zb)); replace HO_534003 := Aside0.mk (Kd.R_mono (Kd.R_told (Kd.R_told (Kd.R_old (tR HO_534003.out) hb) (Kd.R_base ho0)) (Kd.R_base ho1)) (fun _ h_ => h_.1)); replace HO_534005 := Aside0.mk (Kd.R_mono (Kd.R_told (Kd.R_told (Kd.R_old (tR HO_534005.out) hb) (Kd.R_base ho0)) (Kd.R_base ho1)) (fun _ h_ => h_.1)); replace BK533 := tBb BK533 hb; replace HB := tBs HB hb; (try clear hb); (try clear hb2); (try clear hk); (try clear hi); (try clear ho0); (try clear ho1)) | ((with_reducible refine gate_dst (N := 6) rfl ?_); refine box_event ?hg (N := 6) ?hd (cs := #[.int .i64 0, .int .i64 0, .bool false, .slice none 0 0, .bool false, .slice none 0 0]) (t := 25) ?hr ?_; (case hd => rfl); (case hg => rfl); (case hr => first | (go_simp; done) | (go_simp; rfl)); intro gb547 hg w21 hbox hb; replace HO_534003 := tRb HO_534003 hb; replace HO_534005 := tRb HO_534005 hb; replace HO541 := tRb HO541 hb; replace HO545 := tRb HO545 hb; have BK547 := Aside0.mk (hbox); have GW547 := tge HB hg; have GE547 := tge HB hg; replace HB := tBs HB hb; have NB533_547 := tlt BK533 hg; have NB547_533 := tgt BK533 hg; replace BK533 := tBb BK533 hb; clear hb hbox hg; have hnb22 := NB547_533.out; have hnc22 := NB533_547.out; obtain ⟨hcz23_0, hcz23_1, hcz23_2, hcz23_3, hcz23_4, hcz23_5, hfz23_0, hfz23_1, hfz23_2, hfz23_3, hfz23_4, hfz23_5⟩ := cells6 BK547.out; obtain ⟨Ao24, co24, eo24⟩ := Kd.R_slice HO541.out; subst eo24; obtain ⟨Ao25, co25, eo25⟩ := Kd.R_slice HO545.out; subst eo25; obtain ⟨hcz26_0, hcz26_1, hcz26_2, hcz26_3, hcz26_4, hcz26_5, hfz26_0, hfz26_1, hfz26_2, hfz26_3, hfz26_4, hfz26_5⟩ := cells6 BK533.out) | (go_at_call 23; (with_reducible refine (laws_sameRecord.calls kj5 t536 t537 t538 _ _ t539 t542 _ _ t543 t523 t524 t525 _ _ t526 t529 _ _ t530 t548 _ ?side1 ?side2 ?side3 ?side4 ?side5 ?side6 ?side7 ?side8 A19.out).mono ?_); (case side1 => refine (Kd.R_reads' (e := 3) (base := w.heap.size) (ok := fun k_ => ((some k_ ≠ (.slice Ao25 t543.length co25 : Value).ownBlock ∧ some k_ ≠ (.slice Ao10 t526.length co10 : Value).ownBlock) ∧ some k_ ≠ (.slice Ao11 t530.length co11 : Value).ownBlock)) (n := t539.length) (c := co24) ?_).2.2; exact (tRt HO541.out BK547.out)); (case side2 => exact (Kd.R_reads' HO541.out).2.1); (case side3 => refine (Kd.R_reads' (e := 3) (base := w.heap.size) (ok := fun k_ => ((some k_ ≠ (.slice Ao24 t539.length co24 : Value).ownBlock ∧ some k_ ≠ (.slice Ao10 t526.length co10 : Value).ownBlock) ∧ some k_ ≠ (.slice Ao11 t530.length co11 : Value).ownBlock)) (n := t543.length) (c := co25) ?_).2.2; exact (tRt HO545.out BK547.out)); (case side4 => exact (Kd.R_reads' HO545.out).2.1); (case side5 => refine (Kd.R_reads' (e := 3) (base := w.heap.size) (ok := fun k_ => ((some k_ ≠ (.slice Ao11 t530.length co11 : Value).ownBlock ∧ some k_ ≠ (.slice Ao24 t539.length co24 : Value).ownBlock) ∧ some k_ ≠ (.slice Ao25 t543.length co25 : Value).ownBlock)) (n := t526.length) (c := co10) ?_).2.2; exact (tRt HO_534003.out BK547.out)); (case side6 => exact (Kd.R_reads' HO_534003.out).2.1); (case side7 => refine (Kd.R_reads' (e := 3) (base := w.heap.size) (ok := fun k_ => ((some k_ ≠ (.slice Ao10 t526.length co10 : Value).ownBlock ∧ some k_ ≠ (.slice Ao24 t539.length co24 : Value).ownBlock) ∧ some k_ ≠ (.slice Ao25 t543.length co25 : Value).ownBlock)) (n := t530.length) (c := co11) ?_).2.2; exact (tRt HO_534005.out BK547.out)); (case side8 => exact (Kd.R_reads' HO_534005.out).2.1); rintro e w27 ⟨rfl, hb⟩; replace HO_534003 := Aside0.mk (Kd.R_below (tRt HO_534003.out BK547.out) hb); replace HO_534005 := Aside0.mk (Kd.R_below (tRt HO_534005.out BK547.out) hb); replace HO541 := Aside0.mk (Kd.R_below (tRt HO541.out BK547.out) hb); replace HO545 := Aside0.mk (Kd.R_below (tRt HO545.out BK547.out) hb); replace BK533 := tBb BK533 hb; replace BK547 := tBp (o' := .cells #[.int .i64 t536, .int .i64 t537, .bool t538, .slice Ao24 t539.length co24, .bool t542, .slice Ao25 t543.length co25] 25 (0, 0)) BK547 hb; replace HB := tBs HB hb; (try clear hb); (try clear hb2); (try clear hk); (try clear hi)))
      all_goals go_ret
      all_goals exact ⟨by first | rfl | (simp [errW_none, errW_some] <;> rfl) | (simp [*, errW_none, errW_some] <;> rfl), zb⟩
     ·replace c18 := Bool.eq_false_iff.mpr c18
      subst c18
      rw [if_neg (show ¬ (false = true) by decide)] at H
      obtain rfl := Option.some.inj H
      go_wp2_with (first | ((with_reducible refine gate_callee (f := 19) rfl ?_); refine goesL_ (some 29) rfl rfl Tryd.func19 (by kernel_rfl) rfl #[.string t534] rfl tq ?_; (with_reducible refine (impl_RecordOf.calls (hE := ?sideE) kj5 t534 t536 t537 t538 t539 t542 t543 false _ A17.out).mono ?_); (case sideE => exact ErrOk.below (HE.out.sub (by decide)) zb); rintro e w28 ⟨v540, v544, rfl, ho0, ho1, hb⟩; have u_v540 := tsv Tryd.prog v540 ho0; have u_v544 := tsv Tryd.prog v544 ho1; refine ⟨_, rfl, ?_⟩; have HO541 := Aside0.mk (Kd.R_lower (Kd.R_new' (Kd.R_new' ho0 (Kd.R_lt (tR HO_534003.out))) (Kd.R_lt (tR HO_534005.out))) (below_size zb)); have HO545 := Aside0.mk (Kd.R_lower (Kd.R_new' (Kd.R_new' ho1 (Kd.R_lt (tR HO_534003.out))) (Kd.R_lt (tR HO_534005.out))) (below_size zb)); replace HO_534003 := Aside0.mk (Kd.R_mono (Kd.R_told (Kd.R_told (Kd.R_old (tR HO_534003.out) hb) (Kd.R_base ho0)) (Kd.R_base ho1)) (fun _ h_ => h_.1)); replace HO_534005 := Aside0.mk (Kd.R_mono (Kd.R_told (Kd.R_told (Kd.R_old (tR HO_534005.out) hb) (Kd.R_base ho0)) (Kd.R_base ho1)) (fun _ h_ => h_.1)); replace BK533 := tBb BK533 hb; replace HB := tBs HB hb; (try clear hb); (try clear hb2); (try clear hk); (try clear hi); (try clear ho0); (try clear ho1)) | ((with_reducible refine gate_dst (N := 6) rfl ?_); refine box_event ?hg (N := 6) ?hd (cs := #[.int .i64 0, .int .i64 0, .bool false, .slice none 0 0, .bool false, .slice none 0 0]) (t := 25) ?hr ?_; (case hd => rfl); (case hg => rfl); (case hr => first | (go_simp; done) | (go_simp; rfl)); intro gb547 hg w29 hbox hb; replace HO_534003 := tRb HO_534003 hb; replace HO_534005 := tRb HO_534005 hb; replace HO541 := tRb HO541 hb; replace HO545 := tRb HO545 hb; have BK547 := Aside0.mk (hbox); have GW547 := tge HB hg; have GE547 := tge HB hg; replace HB := tBs HB hb; have NB533_547 := tlt BK533 hg; have NB547_533 := tgt BK533 hg; replace BK533 := tBb BK533 hb; clear hb hbox hg; have hnb30 := NB547_533.out; have hnc30 := NB533_547.out; obtain ⟨hcz31_0, hcz31_1, hcz31_2, hcz31_3, hcz31_4, hcz31_5, hfz31_0, hfz31_1, hfz31_2, hfz31_3, hfz31_4, hfz31_5⟩ := cells6 BK547.out; obtain ⟨Ao32, co32, eo32⟩ := Kd.R_slice HO541.out; subst eo32; obtain ⟨Ao33, co33, eo33⟩ := Kd.R_slice HO545.out; subst eo33))
      all_goals go_ret
      all_goals exact ⟨by first | rfl | (simp [errW_none, errW_some] <;> rfl) | (simp [*, errW_none, errW_some] <;> rfl), zb⟩

end Go.Proofs.YteoicjlhkaljbaaDoor.G

namespace Go.Proofs.YteoicjlhkaljbaaDoor.Rd
open Go.RowKit Go.Proofs.YteoicjlhkaljbaaDoorW.PrintWords
set_option linter.unusedVariables false
section
variable {H : Type} {enc : TypeId × Value → H} {P : Program} {w : World} {base : Nat} {spare : Nat → Bool} {held : Bool}
/-- What a reading of type t gives: a value of the kind, and what is known of it. -/
def Opens (enc : TypeId × Value → H) (P : Program) (w : World) (base : Nat) (spare : Nat → Bool) (held : Bool) {α : Type} (t : TypeId) (d : Kd α) (ok : α → Prop) : Prop :=
  P.cellsOf t = d.sz ∧ ∀ fuel cs x, DataW.trod enc P w base spare held fuel t cs = some x → ∃ v, d.K w v cs ∧ ok v
theorem Opens.imp_ {α : Type} {t : TypeId} {d : Kd α} {ok ok' : α → Prop} (h : Opens enc P w base spare held t d ok) (hi : ∀ v, ok v → ok' v) : Opens enc P w base spare held t d ok' :=
  ⟨h.1, fun fuel cs x hx => by
    obtain ⟨v, hk, ho⟩ := h.2 fuel cs x hx
    exact ⟨v, hk, hi v ho⟩⟩
theorem opens_int {t : TypeId} {k : IntKind} (ht : P.underlying t = some (.int k)) (hc : P.cellsOf t = 1) : Opens enc P w base spare held t (Kd.int k) (fun n => (Lit.int k n).wf = true) := by
  refine ⟨hc, fun fuel cs x h => ?_⟩
  obtain ⟨n, rfl, _, hw⟩ := DataW.trod_int ht h
  exact ⟨n, rfl, hw⟩
theorem cells_len {base : Nat} {a : Addr} {n : Nat} {cs : List Value} (h : w.cells? base a n = some cs) : cs.length = n ∧ ∀ i u, cs[i]? = some u → w.cell? (a.add i) = some u := by
  unfold World.cells? at h
  split at h
  · rename_i hb
    refine ⟨by simpa using mapM_some_length h, fun i u hu => ?_⟩
    have hi : i < n := by
      have := (List.getElem?_eq_some_iff.1 hu).1
      have h2 : cs.length = n := by simpa using mapM_some_length h
      omega
    have := mapM_some_get h i i (by simp [hi])
    rw [hu] at this
    exact this
  · simp at h
theorem opens_row {α : Type} {t e : TypeId} {d : Kd α} {ok : α → Prop} (ht : P.underlying t = some (.slice e)) (hd : Opens enc P w base spare held e d ok) {fuel : Nat} {cs : List Value} {x : DataW H × List MemPlace}
    (h : DataW.trod enc P w base spare held fuel t cs = some x) : ∃ (A : Option Addr) (c : Nat) (xs : List α), cs = [.slice A xs.length c] ∧ xs.length ≤ c ∧ c ≤ maxLen ∧ d.C w A xs.length xs ∧ ∀ y ∈ xs, ok y := by
  rcases Go.Deep.open_slice ht h with ⟨rfl, _⟩ | ⟨a, len, cap, m, n, D, Pl, rfl, hb, hl, hm, hmm, _, hel⟩
  · exact ⟨none, 0, [], rfl, Nat.le_refl _, by unfold maxLen; omega, ⟨rfl, by simp, fun h0 => absurd h0 (by simp)⟩, by simp⟩
  have hlm : len ≤ m := by rw [hmm]; split <;> omega
  have hx : ∀ i, i < len → ∃ y : α, ok y ∧ ∃ c, c.length = d.sz ∧ d.K w y c ∧ ∀ j u, c[j]? = some u → w.cell? (a.add (i * d.sz + j)) = some u := by
    intro i hi
    obtain ⟨cs', h1, h2⟩ := hel i (by omega)
    obtain ⟨y, hk, ho⟩ := hd.2 _ _ _ h2
    obtain ⟨hl', hc'⟩ := cells_len h1
    refine ⟨y, ho, cs', by rw [hl', hd.1], hk, fun j u hu => ?_⟩
    have := hc' j u hu
    rw [Go.Deep.add_add, hd.1] at this
    exact this
  rcases Nat.eq_zero_or_pos len with h0 | h0
  · subst h0
    exact ⟨some a, cap, [], rfl, Nat.zero_le _, hm, ⟨rfl, by simp, fun h1 => absurd h1 (by simp)⟩, by simp⟩
  obtain ⟨y0, _⟩ := hx 0 h0
  haveI : Inhabited α := ⟨y0⟩
  obtain ⟨g, hg⟩ := Go.Deep.choose_lt hx
  have hlen : ((List.range len).map g).length = len := by simp
  refine ⟨some a, cap, (List.range len).map g, by rw [hlen], by rw [hlen]; exact hl, hm, ⟨rfl, by rw [hlen]; unfold maxLen at hm; omega, fun _ => ⟨a, rfl, fun j p hj => ?_⟩⟩, fun y hy => ?_⟩
  · have hj' : j < len := by
      have := (List.getElem?_eq_some_iff.1 hj).1
      omega
    rw [List.getElem?_map, List.getElem?_range hj'] at hj
    simp at hj
    subst hj
    obtain ⟨_, c, hc1, hc2, hc3⟩ := hg j hj'
    exact ⟨c, hc1, hc2, hc3⟩
  · obtain ⟨i, hi, rfl⟩ := List.mem_map.1 hy
    exact (hg i (List.mem_range.1 hi)).1
end
end Go.Proofs.YteoicjlhkaljbaaDoor.Rd

namespace Go.Proofs.YteoicjlhkaljbaaDoor.OFnRecordText
open Go.RowKit Go.Proofs.YteoicjlhkaljbaaDoorW.PrintWords Go.Proofs.YteoicjlhkaljbaaDoor.G
set_option linter.unusedVariables false
def Pure : Prop := ∀ (l0 : List Int), l0.length ≤ maxLen → (∀ y ∈ l0, (Lit.int .u8 y).wf = true) → ∃ k, laws_FnRecordText.f k l0 = some true
end Go.Proofs.YteoicjlhkaljbaaDoor.OFnRecordText

namespace Go.Proofs.YteoicjlhkaljbaaDoor.Pu
open Go.RowKit Go.Proofs.YteoicjlhkaljbaaDoorW.PrintWords Go.Proofs.YteoicjlhkaljbaaDoorW.PrintLast Go.Proofs.YteoicjlhkaljbaaDoor.G
set_option linter.unusedVariables false
set_option linter.unusedSimpArgs false
theorem str_one (x : Int) (h0 : 0 ≤ x) (h1 : x ≤ 255) : strOfNums [x] = ByteArray.mk [UInt8.ofNat x.toNat].toArray := by
  unfold strOfNums
  simp
theorem dec_ev : ∀ (m n : Nat), n < 10 ^ (m + 1) → n ≤ 1000000000000 → Ev (fun k => spec_l6Dec.f k (n : Int)) (ByteArray.mk (dec n).toArray) := by
  intro m
  induction m with
  | zero =>
    intro n h hn
    refine Ev.step (fun k => by rw [spec_l6Dec.f]) ?_
    have h10 : n < 10 := by simpa using h
    simp only [if_neg (show ¬ (n : Int) < -9223372036854775807 by omega), if_neg (show ¬ (n : Int) < 0 by omega), if_pos (show (n : Int) < 10 by omega), w64 (a := 48 + (n : Int)) (by omega) (by omega)]
    rw [show (48 + (n : Int)) % 256 = 48 + n by omega, str_one _ (by omega) (by omega)]
    unfold dec
    rw [dif_pos h10, show (48 + (n : Int)).toNat = 48 + n by omega]
    exact Ev.now _
  | succ m ih =>
    intro n h hn
    refine Ev.step (fun k => by rw [spec_l6Dec.f]) ?_
    by_cases h10 : n < 10
    · simp only [if_neg (show ¬ (n : Int) < -9223372036854775807 by omega), if_neg (show ¬ (n : Int) < 0 by omega), if_pos (show (n : Int) < 10 by omega), w64 (a := 48 + (n : Int)) (by omega) (by omega)]
      rw [show (48 + (n : Int)) % 256 = 48 + n by omega, str_one _ (by omega) (by omega)]
      unfold dec
      rw [dif_pos h10, show (48 + (n : Int)).toNat = 48 + n by omega]
      exact Ev.now _
    · have ht : Int.tdiv (n : Int) 10 = ((n / 10 : Nat) : Int) := by
        rw [Int.tdiv_eq_ediv_of_nonneg (by omega)]; omega
      have hm : Int.tmod (n : Int) 10 = ((n % 10 : Nat) : Int) := by
        rw [Int.tmod_eq_emod_of_nonneg (by omega)]; omega
      simp only [if_neg (show ¬ (n : Int) < -9223372036854775807 by omega), if_neg (show ¬ (n : Int) < 0 by omega), if_neg (show ¬ (n : Int) < 10 by omega), ht, hm, w64 (a := ((n / 10 : Nat) : Int)) (by omega) (by omega), w64 (a := 48 + ((n % 10 : Nat) : Int)) (by omega) (by omega)]
      have h1 : n / 10 < 10 ^ (m + 1) := by rw [Nat.pow_succ] at h; omega
      refine Ev.bind (ih (n / 10) h1 (by omega)) ?_
      simp only [bindS]
      rw [show (48 + ((n % 10 : Nat) : Int)) % 256 = 48 + ((n % 10 : Nat) : Int) by omega, str_one _ (by omega) (by omega), show (48 + ((n % 10 : Nat) : Int)).toNat = 48 + n % 10 by omega]
      have hl := dec_len (n / 10) 12 (by omega)
      have hs : (ByteArray.mk (dec (n / 10)).toArray).size + (ByteArray.mk [UInt8.ofNat (48 + n % 10)].toArray).size ≤ 9223372036854775807 := by
        rw [size_mk, size_mk]; simp only [List.length_singleton]; omega
      simp only [if_pos hs, app_mk]
      rw [show dec n = dec (n / 10) ++ [UInt8.ofNat (48 + n % 10)] by rw [dec, dif_neg h10]]
      exact Ev.now _
theorem hex_loop (l : List Int) (hl : l.length ≤ 1000000) (ho : l.all isB = true) : ∀ d i, l.length - i = d → i ≤ l.length →
    Ev (fun k => spec_BytesText.l0 k l digs (ByteArray.mk (hexOf (l.take i)).toArray) (i : Int)) (ByteArray.mk (hexOf l).toArray) := by
  intro d
  induction d with
  | zero =>
    intro i hi hle
    refine Ev.step (fun k => by rw [spec_BytesText.l0]) ?_
    simp only [if_neg (show ¬ ((i : Int) < (l.length : Int)) by omega)]
    rw [List.take_of_length_le (by omega)]
    exact Ev.now _
  | succ d ih =>
    intro i hi hle
    have hlt : i < l.length := by omega
    have hb := (isB_iff _).1 (List.all_eq_true.1 ho _ (List.getElem_mem hlt))
    obtain ⟨n, hn⟩ := Int.eq_ofNat_of_zero_le hb.1
    have hn2 : n ≤ 255 := by omega
    refine Ev.step (fun k => by rw [spec_BytesText.l0]) ?_
    simp only [if_pos (show (i : Int) < (l.length : Int) by omega)]
    refine Ev.bind (l1Ok_ev l (by omega)) ?_
    have ht : Int.tdiv (n : Int) 16 = ((n / 16 : Nat) : Int) := by
      rw [Int.tdiv_eq_ediv_of_nonneg (by omega)]; omega
    have hm : Int.tmod (n : Int) 16 = ((n % 16 : Nat) : Int) := by
      rw [Int.tmod_eq_emod_of_nonneg (by omega)]; omega
    have d1 := digs_at (n / 16) (by omega)
    have d2 := digs_at (n % 16) (by omega)
    have hsz : digs.size = 16 := rfl
    simp only [ho, if_true, if_pos (show (0 : Int) ≤ (i : Int) by omega), rdi_nat l i hlt, hn, ht, hm, w64 (a := ((n / 16 : Nat) : Int)) (by omega) (by omega), w64 (a := ((n / 16 : Nat) : Int) + 1) (by omega) (by omega), w64 (a := ((n % 16 : Nat) : Int) + 1) (by omega) (by omega), w64 (a := (i : Int) + 1) (by omega) (by omega),
      if_pos (show (0 : Int) ≤ ((n / 16 : Nat) : Int) by omega), if_pos (show ((n / 16 : Nat) : Int) ≤ ((n / 16 : Nat) : Int) + 1 by omega), if_pos (show ((n / 16 : Nat) : Int) + 1 ≤ (digs.size : Int) by rw [hsz]; omega),
      if_pos (show (0 : Int) ≤ ((n % 16 : Nat) : Int) by omega), if_pos (show ((n % 16 : Nat) : Int) ≤ ((n % 16 : Nat) : Int) + 1 by omega), if_pos (show ((n % 16 : Nat) : Int) + 1 ≤ (digs.size : Int) by rw [hsz]; omega),
      Int.toNat_natCast, show (((n / 16 : Nat) : Int) + 1).toNat = n / 16 + 1 by omega, show (((n % 16 : Nat) : Int) + 1).toNat = n % 16 + 1 by omega, d1, d2]
    have hll : (hexOf (l.take i)).length ≤ 2000000 := by rw [hexOf_len, List.length_take]; omega
    have s1 : (ByteArray.mk (hexOf (l.take i)).toArray).size + (ByteArray.mk [hx (n / 16)].toArray).size ≤ 9223372036854775807 := by
      rw [size_mk, size_mk]; simp only [List.length_singleton]; omega
    have s2 : (ByteArray.mk (hexOf (l.take i)).toArray ++ ByteArray.mk [hx (n / 16)].toArray).size + (ByteArray.mk [hx (n % 16)].toArray).size ≤ 9223372036854775807 := by
      rw [app_mk, size_mk, size_mk]; simp only [List.length_singleton, List.length_append]; omega
    simp only [if_pos s1, if_pos s2]
    simp only [app_mk]
    have := ih (i + 1) (by omega) (by omega)
    rw [List.take_succ_eq_append_getElem hlt, hexOf_snoc, hn, Int.toNat_natCast] at this
    simp only [List.append_assoc, List.cons_append, List.nil_append] at this ⊢
    exact this
theorem hex_ev (l : List Int) (hl : l.length ≤ 1000000) (ho : l.all isB = true) : Ev (fun k => spec_BytesText.f k l) (ByteArray.mk (hexOf l).toArray) := by
  unfold spec_BytesText.f
  have := hex_loop l hl ho l.length 0 (by omega) (by omega)
  exact this
def partT (has : Bool) (l : List Int) : List UInt8 := if has = true then 120 :: hexOf l else [45]
theorem part_ev (has : Bool) (l : List Int) (hl : l.length ≤ 1000000) (ho : has = true → l.all isB = true) : Ev (fun k => spec_l41Part.f k has l) (ByteArray.mk (partT has l).toArray) := by
  unfold spec_l41Part.f partT
  cases has
  · exact Ev.now _
  · simp only [if_true]
    refine Ev.bind (hex_ev l hl (ho rfl)) ?_
    have : 1 + (ByteArray.mk (hexOf l).toArray).size ≤ 9223372036854775807 := by rw [size_mk, hexOf_len]; omega
    simp only [if_pos this]
    rw [show (⟨#[120]⟩ : ByteArray) = ByteArray.mk [120].toArray from rfl, app_mk]
    exact Ev.now _
def textOf (r : S25) : List UInt8 := dec r.f0.toNat ++ 32 :: (dec r.f1.toNat ++ 32 :: (partT r.f2 r.f3 ++ 32 :: partT r.f4 r.f5))
theorem recOk_parts {r : S25} (h : recOk r = true) : (0 ≤ r.f0 ∧ r.f0 ≤ 99999) ∧ (0 ≤ r.f1 ∧ r.f1 ≤ 99999) ∧ (r.f2 = true → r.f3.all isB = true) ∧ (r.f4 = true → r.f5.all isB = true) ∧ (r.f2 = false → r.f3 = []) ∧ (r.f4 = false → r.f5 = []) := by
  unfold recOk partOk rng at h
  simp only [Bool.and_eq_true, decide_eq_true_eq] at h
  obtain ⟨⟨h0, h1⟩, h2, h3⟩ := h
  refine ⟨h0, h1, fun e => ?_, fun e => ?_, fun e => ?_, fun e => ?_⟩
  · rw [e] at h2; simp at h2; exact List.all_eq_true.2 h2.2
  · rw [e] at h3; simp at h3; exact List.all_eq_true.2 h3.2
  · rw [e] at h2; simpa using h2
  · rw [e] at h3; simpa using h3
theorem text_ev (r : S25) (h : recOk r = true) : Ev (fun k => spec_l41Text.f k r.f0 r.f1 r.f2 r.f3 r.f4 r.f5) (ByteArray.mk (textOf r).toArray) := by
  obtain ⟨h0, h1, h2, h3, _, _⟩ := recOk_parts h
  have hl := recOk_len h
  obtain ⟨a, ha⟩ := Int.eq_ofNat_of_zero_le h0.1
  obtain ⟨b, hb⟩ := Int.eq_ofNat_of_zero_le h1.1
  have la := dec_len a 4 (by omega)
  have lb := dec_len b 4 (by omega)
  have lp : (partT r.f2 r.f3).length ≤ 25 := by unfold partT; split; simp only [List.length_cons, hexOf_len]; omega; simp
  have lq : (partT r.f4 r.f5).length ≤ 25 := by unfold partT; split; simp only [List.length_cons, hexOf_len]; omega; simp
  unfold spec_l41Text.f
  rw [ha, hb]
  refine Ev.bind (dec_ev 4 a (by omega) (by omega)) ?_
  rw [show (⟨#[32]⟩ : ByteArray) = ByteArray.mk [32].toArray from rfl]
  simp only [if_pos (show (ByteArray.mk (dec a).toArray).size + 1 ≤ 9223372036854775807 by rw [size_mk]; omega)]
  refine Ev.bind (dec_ev 4 b (by omega) (by omega)) ?_
  simp only [app_mk]
  have e1 : (ByteArray.mk (dec a ++ [32]).toArray).size + (ByteArray.mk (dec b).toArray).size ≤ 9223372036854775807 := by rw [size_mk, size_mk]; simp only [List.length_append, List.length_singleton]; omega
  have e2 : (ByteArray.mk (dec a ++ [32] ++ dec b).toArray).size + 1 ≤ 9223372036854775807 := by rw [size_mk]; simp only [List.length_append, List.length_singleton]; omega
  simp only [if_pos e1, if_pos e2]
  refine Ev.bind (part_ev r.f2 r.f3 (by omega) h2) ?_
  simp only [app_mk]
  have e3 : (ByteArray.mk (dec a ++ [32] ++ dec b ++ [32]).toArray).size + (ByteArray.mk (partT r.f2 r.f3).toArray).size ≤ 9223372036854775807 := by rw [size_mk, size_mk]; simp only [List.length_append, List.length_singleton]; omega
  have e4 : (ByteArray.mk (dec a ++ [32] ++ dec b ++ [32] ++ partT r.f2 r.f3).toArray).size + 1 ≤ 9223372036854775807 := by rw [size_mk]; simp only [List.length_append, List.length_singleton]; omega
  simp only [if_pos e3, if_pos e4]
  refine Ev.bind (part_ev r.f4 r.f5 (by omega) h3) ?_
  simp only [app_mk]
  have e5 : (ByteArray.mk (dec a ++ [32] ++ dec b ++ [32] ++ partT r.f2 r.f3 ++ [32]).toArray).size + (ByteArray.mk (partT r.f4 r.f5).toArray).size ≤ 9223372036854775807 := by rw [size_mk, size_mk]; simp only [List.length_append, List.length_singleton]; omega
  simp only [if_pos e5]
  unfold textOf
  rw [ha, hb, Int.toNat_natCast, Int.toNat_natCast]
  have : dec a ++ [32] ++ dec b ++ [32] ++ partT r.f2 r.f3 ++ [32] ++ partT r.f4 r.f5 = dec a ++ 32 :: (dec b ++ 32 :: (partT r.f2 r.f3 ++ 32 :: partT r.f4 r.f5)) := by simp
  rw [this]
  exact Ev.now _
/-! one line, one record -/
theorem split_first {a b x y : List UInt8} {c : UInt8} (ha : c ∉ a) (hb : c ∉ b) (h : a ++ c :: x = b ++ c :: y) : a = b ∧ x = y := by
  induction a generalizing b with
  | nil =>
    cases b with
    | nil => simpa using h
    | cons d b =>
      simp only [List.nil_append, List.cons_append, List.cons.injEq] at h
      exact absurd (by simp [h.1]) hb
  | cons d a ih =>
    cases b with
    | nil =>
      simp only [List.nil_append, List.cons_append, List.cons.injEq] at h
      exact absurd (by simp [h.1]) ha
    | cons e b =>
      simp only [List.cons_append, List.cons.injEq] at h
      have := ih (fun m => ha (by simp [m])) (fun m => hb (by simp [m])) h.2
      exact ⟨by rw [h.1, this.1], this.2⟩
theorem dec_digit (n : Nat) : ∀ c ∈ dec n, 48 ≤ c.toNat ∧ c.toNat ≤ 57 := by
  induction n using Nat.strongRecOn with
  | ind n ih =>
    intro c hc
    unfold dec at hc
    split at hc
    · rename_i h
      simp only [List.mem_singleton] at hc
      subst hc
      simp only [UInt8.toNat_ofNat']
      omega
    · rename_i h
      rcases List.mem_append.1 hc with hc | hc
      · exact ih (n / 10) (by omega) c hc
      · simp only [List.mem_singleton] at hc
        subst hc
        simp only [UInt8.toNat_ofNat']
        omega
def val (l : List UInt8) : Nat := l.foldl (fun n c => 10 * n + (c.toNat - 48)) 0
theorem val_dec (n : Nat) : val (dec n) = n := by
  induction n using Nat.strongRecOn with
  | ind n ih =>
    unfold dec
    split
    · rename_i h
      simp only [val, List.foldl_cons, List.foldl_nil, UInt8.toNat_ofNat']
      omega
    · rename_i h
      have := ih (n / 10) (by omega)
      unfold val at this ⊢
      rw [List.foldl_append, this]
      simp only [List.foldl_cons, List.foldl_nil, UInt8.toNat_ofNat']
      omega
theorem dec_inj {a b : Nat} (h : dec a = dec b) : a = b := by rw [← val_dec a, ← val_dec b, h]
theorem dec_no (n : Nat) : (32 : UInt8) ∉ dec n := fun h => by
  have := dec_digit n 32 h
  simp at this
theorem hx_range (n : Nat) (h : n < 16) : 48 ≤ (hx n).toNat ∧ (hx n).toNat ≤ 102 := by
  unfold hx
  split <;> simp only [UInt8.toNat_ofNat'] <;> omega
theorem hx_inj {a b : Nat} (ha : a < 16) (hb : b < 16) (h : hx a = hx b) : a = b := by
  have h2 : (hx a).toNat = (hx b).toNat := by rw [h]
  unfold hx at h2
  split at h2 <;> split at h2 <;> simp only [UInt8.toNat_ofNat'] at h2 <;> omega
theorem part_no (has : Bool) (l : List Int) (ho : has = true → l.all isB = true) : (32 : UInt8) ∉ partT has l := by
  unfold partT
  cases has
  · simp
  · simp only [if_true, List.mem_cons, not_or]
    refine ⟨by decide, fun h => ?_⟩
    unfold hexOf at h
    obtain ⟨x, hx1, hx2⟩ := List.mem_flatMap.1 h
    have hb := (isB_iff _).1 (List.all_eq_true.1 (ho rfl) x hx1)
    simp only [List.mem_cons, List.not_mem_nil, or_false] at hx2
    rcases hx2 with h2 | h2
    · have := (hx_range (x.toNat / 16) (by omega)).1
      rw [← h2] at this
      simp at this
    · have := (hx_range (x.toNat % 16) (by omega)).1
      rw [← h2] at this
      simp at this
theorem hexOf_inj : ∀ {a b : List Int}, a.all isB = true → b.all isB = true → hexOf a = hexOf b → a = b
  | [], [], _, _, _ => rfl
  | [], y :: ys, _, _, h => by
    have := congrArg List.length h
    rw [hexOf_len, hexOf_len] at this
    simp at this
  | x :: xs, [], _, _, h => by
    have := congrArg List.length h
    rw [hexOf_len, hexOf_len] at this
    simp at this
  | x :: xs, y :: ys, ha, hb, h => by
    rw [List.all_cons, Bool.and_eq_true, isB_iff] at ha hb
    have h' : hx (x.toNat / 16) :: hx (x.toNat % 16) :: hexOf xs = hx (y.toNat / 16) :: hx (y.toNat % 16) :: hexOf ys := h
    simp only [List.cons.injEq] at h'
    obtain ⟨h1, h2, h3⟩ := h'
    have e1 := hx_inj (by omega) (by omega) h1
    have e2 := hx_inj (by omega) (by omega) h2
    have e3 := hexOf_inj ha.2 hb.2 h3
    rw [e3, show x = y by omega]
theorem partT_inj {h1 h2 : Bool} {a b : List Int} (ha : h1 = true → a.all isB = true) (hb : h2 = true → b.all isB = true) (na : h1 = false → a = []) (nb : h2 = false → b = []) (h : partT h1 a = partT h2 b) : h1 = h2 ∧ a = b := by
  unfold partT at h
  cases h1 <;> cases h2
  · exact ⟨rfl, by rw [na rfl, nb rfl]⟩
  · simp at h
  · simp at h
  · simp only [if_true, List.cons.injEq, true_and] at h
    exact ⟨rfl, hexOf_inj (ha rfl) (hb rfl) h⟩
theorem text_inj {a b : S25} (ha : recOk a = true) (hb : recOk b = true) (h : textOf a = textOf b) : a = b := by
  obtain ⟨a0, a1, a2, a3, a4, a5⟩ := recOk_parts ha
  obtain ⟨b0, b1, b2, b3, b4, b5⟩ := recOk_parts hb
  unfold textOf at h
  obtain ⟨e0, h⟩ := split_first (dec_no _) (dec_no _) h
  obtain ⟨e1, h⟩ := split_first (dec_no _) (dec_no _) h
  obtain ⟨e2, h⟩ := split_first (part_no _ _ a2) (part_no _ _ b2) h
  have k0 := dec_inj e0
  have k1 := dec_inj e1
  obtain ⟨k2, k3⟩ := partT_inj a2 b2 a4 b4 e2
  obtain ⟨k4, k5⟩ := partT_inj a3 b3 a5 b5 h
  cases a; cases b
  simp only at a0 a1 b0 b1 k0 k1 k2 k3 k4 k5
  subst k2 k3 k4 k5
  congr 1 <;> omega
end Go.Proofs.YteoicjlhkaljbaaDoor.Pu

namespace Go.Proofs.YteoicjlhkaljbaaDoor.Pu
open Go.RowKit Go.Proofs.YteoicjlhkaljbaaDoorW.PrintWords Go.Proofs.YteoicjlhkaljbaaDoorW.PrintLast Go.Proofs.YteoicjlhkaljbaaDoor.G
set_option linter.unusedVariables false
set_option linter.unusedSimpArgs false
def splitL : List UInt8 → List (List UInt8)
  | [] => [[]]
  | c :: l => if c = 32 then [] :: splitL l else (c :: (splitL l).headD []) :: (splitL l).tail
theorem splitL_ne (l : List UInt8) : splitL l ≠ [] := by
  cases l with
  | nil => simp [splitL]
  | cons c l => unfold splitL; split <;> simp
theorem splitL_none : ∀ {l : List UInt8}, (32 : UInt8) ∉ l → splitL l = [l]
  | [], _ => rfl
  | c :: l, h => by
    have hc : ¬ c = 32 := fun e => h (by simp [e])
    have ih := splitL_none (l := l) (fun m => h (by simp [m]))
    unfold splitL
    rw [if_neg hc, ih]
    rfl
theorem splitL_app : ∀ {a b : List UInt8}, (32 : UInt8) ∉ a → splitL (a ++ 32 :: b) = a :: splitL b
  | [], b, _ => by
    rw [List.nil_append]
    conv => lhs; unfold splitL
    rw [if_pos rfl]
  | c :: a, b, h => by
    have hc : ¬ c = 32 := fun e => h (by simp [e])
    have ih := splitL_app (a := a) (b := b) (fun m => h (by simp [m]))
    rw [List.cons_append]
    conv => lhs; unfold splitL
    rw [if_neg hc, ih]
    rfl
theorem splitL_join (l : List UInt8) : Lib.join (splitL l) [32] = l ∧ ∀ p ∈ splitL l, (32 : UInt8) ∉ p := by
  induction l with
  | nil => exact ⟨by simp [splitL, Lib.join_one], by simp [splitL]⟩
  | cons c l ih =>
    obtain ⟨h1, h2⟩ := ih
    have hne := splitL_ne l
    cases hs : splitL l with
    | nil => exact absurd hs hne
    | cons p ps =>
      rw [hs] at h1 h2
      unfold splitL
      by_cases hc : c = 32
      · rw [if_pos hc, hs]
        refine ⟨?_, fun q hq => ?_⟩
        · subst hc
          simp only [Lib.join, List.intercalate] at h1 ⊢
          simp only [List.intersperse_cons_cons, List.flatten_cons] at h1 ⊢
          simp [h1]
        · rcases List.mem_cons.1 hq with rfl | hq
          · simp
          · exact h2 q hq
      · rw [if_neg hc, hs]
        refine ⟨?_, fun q hq => ?_⟩
        · simp only [List.headD_cons, List.tail_cons]
          cases ps with
          | nil => rw [Lib.join_one] at h1 ⊢; rw [h1]
          | cons p2 ps =>
            simp only [Lib.join, List.intercalate] at h1 ⊢
            simp only [List.intersperse_cons_cons, List.flatten_cons] at h1 ⊢
            rw [List.cons_append, h1]
        · simp only [List.headD_cons, List.tail_cons] at hq
          rcases List.mem_cons.1 hq with rfl | hq
          · simp only [List.mem_cons, not_or]
            exact ⟨fun e => hc e.symm, h2 p (by simp)⟩
          · exact h2 q (List.mem_cons_of_mem _ hq)
/-- The library's cut. -/
theorem first_blank (l : List UInt8) : (Lib.index l [32] = -1 ∧ (32 : UInt8) ∉ l) ∨ ∃ a b, l = a ++ 32 :: b ∧ (32 : UInt8) ∉ a ∧ Lib.index l [32] = (a.length : Nat) := by
  induction l with
  | nil => exact .inl ⟨rfl, by simp⟩
  | cons c l ih =>
    by_cases hc : c = 32
    · subst hc
      exact .inr ⟨[], l, rfl, by simp, by simp [Lib.index]⟩
    · have hc2 : ¬ (32 : UInt8) = c := fun e => hc e.symm
      have hp : ([32] : List UInt8).isPrefixOf (c :: l) = false := by show ((32 : UInt8) == c && ([] : List UInt8).isPrefixOf l) = false; rw [beq_eq_false_iff_ne.2 hc2]; rfl
      rcases ih with ⟨h1, h2⟩ | ⟨a, b, e, ha, hi⟩
      · refine .inl ⟨?_, by simp [hc2, h2]⟩
        unfold Lib.index
        rw [hp, h1]
        rfl
      · refine .inr ⟨c :: a, b, by rw [e]; rfl, by simp [hc2, ha], ?_⟩
        unfold Lib.index
        rw [hp, hi]
        have : (((a.length : Nat) : Int) == -1) = false := by rw [beq_eq_false_iff_ne]; omega
        simp [this]
theorem splitK_eq : ∀ (n : Nat) (l : List UInt8), l.length ≤ n → Lib.splitK [32] 0 (Lib.count l [32]) l = splitL l := by
  intro n
  induction n with
  | zero =>
    intro l hl
    obtain rfl : l = [] := List.eq_nil_of_length_eq_zero (by omega)
    rw [Lib.count_miss (s := []) (sub := [32]) rfl]
    rfl
  | succ n ih =>
    intro l hl
    rcases first_blank l with ⟨h1, h2⟩ | ⟨a, b, e, ha, hi⟩
    · rw [Lib.count_miss h1, splitL_none h2]
      rfl
    · have hd : l.drop (a.length + ([32] : List UInt8).length) = b := by rw [e]; simp
      rw [Lib.count_hit (by simp) hi, hd, Nat.add_comm]
      unfold Lib.splitK
      have hm : ¬ (Lib.index l [32] == -1) = true := by rw [hi]; simp
      rw [if_neg hm, hi, Int.toNat_natCast, hd, ih b (by rw [e] at hl; simp at hl; omega)]
      rw [e, splitL_app ha]
      simp
theorem splitB_list (s : ByteArray) : (Lib.splitB ⟨#[32]⟩ 0 (Lib.countB s ⟨#[32]⟩) s).map (·.data.toList) = splitL s.data.toList := by
  rw [Lib.splitB_data]
  exact splitK_eq s.data.toList.length _ (Nat.le_refl _)
/-- The reference's cut. -/
theorem extract_list (s : ByteArray) (a b : Nat) : (s.extract a b).toList = (s.toList.drop a).take (b - a) := by
  rw [toList_data, toList_data, Lib.extract_data]
theorem bt_list (s : ByteArray) (i : Nat) (h : i < s.size) : bt s (i : Int) = ((s.toList[i]'(by rw [toList_data]; simpa using h)).toNat : Int) := by
  have := bt_get s i h
  simp only [toList_data]
  exact this
theorem toList_len (s : ByteArray) : s.toList.length = s.size := by rw [toList_data]; exact data_length s
end Go.Proofs.YteoicjlhkaljbaaDoor.Pu

namespace Go.Proofs.YteoicjlhkaljbaaDoor.Pu
open Go.RowKit Go.Proofs.YteoicjlhkaljbaaDoorW.PrintWords Go.Proofs.YteoicjlhkaljbaaDoorW.PrintLast Go.Proofs.YteoicjlhkaljbaaDoor.G
set_option linter.unusedVariables false
set_option linter.unusedSimpArgs false
def isDig (c : UInt8) : Bool := decide (48 ≤ c.toNat) && decide (c.toNat ≤ 57)
theorem val_snoc (l : List UInt8) (c : UInt8) : val (l ++ [c]) = 10 * val l + (c.toNat - 48) := by
  unfold val
  rw [List.foldl_append]
  rfl
theorem val_lt : ∀ (n : Nat) (l : List UInt8), l.length = n → l.all isDig = true → val l < 10 ^ l.length := by
  intro n
  induction n with
  | zero => intro l hl _; rw [List.eq_nil_of_length_eq_zero hl]; decide
  | succ n ih =>
    intro l hl ha
    obtain ⟨m, c, rfl⟩ : ∃ m c, l = m ++ [c] := by
      rcases List.eq_nil_or_concat l with rfl | ⟨m, c, rfl⟩
      · simp at hl
      · exact ⟨m, c, by simp⟩
    simp only [List.length_append, List.length_singleton] at hl
    rw [List.all_append, Bool.and_eq_true] at ha
    have h1 := ih m (by omega) ha.1
    have hc : isDig c = true := by simpa using ha.2
    unfold isDig at hc
    simp only [Bool.and_eq_true, decide_eq_true_eq] at hc
    rw [val_snoc, List.length_append, List.length_singleton, Nat.pow_succ]
    omega
/-- One to five digits, no zero ahead. -/
def shape (l : List UInt8) : Bool := decide (1 ≤ l.length) && decide (l.length ≤ 5) && !(decide (1 < l.length) && l.headD 0 == 48)
def numI (l : List UInt8) : Int × Bool := if (shape l && l.all isDig) = true then ((val l : Nat), true) else (0, false)
theorem dec_val : ∀ (n : Nat) (l : List UInt8), l.length = n → l ≠ [] → l.all isDig = true → (1 < l.length → l.headD 0 ≠ 48) → dec (val l) = l := by
  intro n
  induction n with
  | zero => intro l hl hne; exact absurd (List.eq_nil_of_length_eq_zero hl) hne
  | succ n ih =>
    intro l hl hne ha hz
    obtain ⟨m, c, rfl⟩ : ∃ m c, l = m ++ [c] := by
      rcases List.eq_nil_or_concat l with rfl | ⟨m, c, rfl⟩
      · simp at hl
      · exact ⟨m, c, by simp⟩
    simp only [List.length_append, List.length_singleton] at hl hz
    rw [List.all_append, Bool.and_eq_true] at ha
    have hc : isDig c = true := by simpa using ha.2
    unfold isDig at hc
    simp only [Bool.and_eq_true, decide_eq_true_eq] at hc
    have hcc : UInt8.ofNat (48 + (c.toNat - 48)) = c := by rw [show 48 + (c.toNat - 48) = c.toNat by omega]; simp
    rw [val_snoc]
    cases m with
    | nil =>
      show dec (10 * 0 + (c.toNat - 48)) = [c]
      unfold dec
      rw [dif_pos (by omega), show 48 + (10 * 0 + (c.toNat - 48)) = 48 + (c.toNat - 48) by omega, hcc]
    | cons x m =>
      have hz' : x ≠ 48 := by simpa using hz (by simp)
      have hm := ih (x :: m) (by omega) (by simp) ha.1 (fun _ => by simpa using hz')
      have hpos : 1 ≤ val (x :: m) := by
        rcases Nat.eq_zero_or_pos (val (x :: m)) with h0 | h0
        · rw [h0] at hm
          have : dec 0 = [48] := by unfold dec; rfl
          rw [this] at hm
          simp only [List.cons.injEq] at hm
          exact absurd hm.1.symm hz'
        · exact h0
      rw [dec, dif_neg (by omega), show (10 * val (x :: m) + (c.toNat - 48)) / 10 = val (x :: m) by omega, show (10 * val (x :: m) + (c.toNat - 48)) % 10 = c.toNat - 48 by omega, hm, hcc]
theorem dec_head (n : Nat) (h : 10 ≤ n) : (dec n).headD 0 ≠ 48 := by
  induction n using Nat.strongRecOn with
  | ind n ih =>
    have hd : dec n = dec (n / 10) ++ [UInt8.ofNat (48 + n % 10)] := by rw [dec, dif_neg (by omega)]
    rw [hd]
    by_cases h2 : n / 10 < 10
    · have : dec (n / 10) = [UInt8.ofNat (48 + n / 10)] := by rw [dec, dif_pos h2]
      rw [this]
      show UInt8.ofNat (48 + n / 10) ≠ 48
      intro e
      have := congrArg UInt8.toNat e
      simp only [UInt8.toNat_ofNat'] at this
      have h48 : (48 : UInt8).toNat = 48 := rfl
      omega
    · have := ih (n / 10) (by omega) (by omega)
      cases hq : dec (n / 10) with
      | nil => rw [hq] at this; have hl := dec_digit (n / 10); unfold dec at hq; split at hq <;> simp at hq
      | cons y ys => rw [hq] at this; simpa using this
theorem dec_ne (n : Nat) : dec n ≠ [] := by unfold dec; split <;> simp
theorem dec_all (n : Nat) : (dec n).all isDig = true := List.all_eq_true.2 fun c hc => by
  have := dec_digit n c hc
  unfold isDig
  simp only [Bool.and_eq_true, decide_eq_true_eq]
  exact this
theorem shape_dec (n : Nat) (h : n ≤ 99999) : shape (dec n) = true := by
  have h1 := dec_len n 4 (by omega)
  have h2 : 1 ≤ (dec n).length := List.length_pos_iff.2 (dec_ne n)
  unfold shape
  simp only [Bool.and_eq_true, decide_eq_true_eq, Bool.not_eq_true', Bool.and_eq_false_iff, decide_eq_false_iff_not, beq_eq_false_iff_ne]
  refine ⟨⟨h2, h1⟩, ?_⟩
  by_cases h10 : n < 10
  · left
    have : dec n = [UInt8.ofNat (48 + n)] := by rw [dec, dif_pos h10]
    rw [this]
    simp
  · exact .inr (dec_head n (by omega))
theorem numI_dec (n : Nat) (h : n ≤ 99999) : numI (dec n) = (((n : Nat) : Int), true) := by
  unfold numI
  rw [shape_dec n h, dec_all n, val_dec]
  rfl
theorem numI_inv {l : List UInt8} {n : Int} (h : numI l = (n, true)) : ∃ m : Nat, n = m ∧ m ≤ 99999 ∧ dec m = l := by
  unfold numI at h
  by_cases hs : (shape l && l.all isDig) = true
  · rw [if_pos hs] at h
    obtain rfl : ((val l : Nat) : Int) = n := congrArg Prod.fst h
    rw [Bool.and_eq_true] at hs
    obtain ⟨h1, h2⟩ := hs
    unfold shape at h1
    simp only [Bool.and_eq_true, decide_eq_true_eq, Bool.not_eq_true', Bool.and_eq_false_iff, decide_eq_false_iff_not, beq_eq_false_iff_ne] at h1
    have hv := val_lt l.length l rfl h2
    have hp : 10 ^ l.length ≤ 10 ^ 5 := Nat.pow_le_pow_right (by decide) h1.1.2
    refine ⟨val l, rfl, by omega, dec_val l.length l rfl (fun e => by rw [e] at h1; simp at h1) h2 (fun hl => ?_)⟩
    rcases h1.2 with h3 | h3
    · exact absurd hl h3
    · exact h3
  · rw [if_neg hs] at h
    cases h
theorem bt_dig (s : ByteArray) (i : Nat) (h : i < s.toList.length) : isDig s.toList[i] = (decide (¬ bt s (i : Int) < 48) && decide (¬ bt s (i : Int) > 57)) := by
  rw [bt_list s i (by rw [← toList_len]; exact h)]
  unfold isDig
  congr 1
  · exact decide_eq_decide.2 (by omega)
  · exact decide_eq_decide.2 (by omega)
/-- A loop over the digits of a word. -/
theorem num_loop {β : Type} (s : ByteArray) (hs : s.size ≤ 5) (L : Nat → Int → Int → Option β) (no : β) (yes : Int → β)
    (hend : ∀ k x, L (k + 1) x (s.size : Int) = some (yes x))
    (hstep : ∀ k x (i : Nat), i < s.size → L (k + 1) x (i : Int) = if bt s (i : Int) < 48 then some no else if bt s (i : Int) > 57 then some no else L k (wrap64 ((wrap64 (10 * x)) + ((bt s (i : Int) - 48) % 256))) (wrap64 ((i : Int) + 1))) :
    ∀ d i, s.size - i = d → i ≤ s.size → (s.toList.take i).all isDig = true → Ev (fun k => L k ((val (s.toList.take i) : Nat) : Int) (i : Int)) (if s.toList.all isDig = true then yes ((val s.toList : Nat) : Int) else no) := by
  intro d
  have hl := toList_len s
  induction d with
  | zero =>
    intro i hd hi ha
    obtain rfl : i = s.size := by omega
    refine Ev.step (fun k => hend k _) ?_
    have e : s.toList.take s.size = s.toList := List.take_of_length_le (by omega)
    rw [e] at ha ⊢
    rw [if_pos ha]
    exact Ev.now _
  | succ d ih =>
    intro i hd hi ha
    have hlt : i < s.size := by omega
    have hli : i < s.toList.length := by omega
    refine Ev.step (fun k => hstep k _ i hlt) ?_
    have hb := bt_dig s i hli
    have hbl := bt_list s i hlt
    have hno : isDig s.toList[i] = false → s.toList.all isDig = false := fun h => by
      rw [List.all_eq_false]
      exact ⟨_, List.getElem_mem hli, by simp [h]⟩
    by_cases h1 : bt s (i : Int) < 48
    · simp only [if_pos h1]
      rw [hno (by rw [hb]; simp [h1])]
      exact Ev.now _
    · simp only [if_neg h1]
      by_cases h2 : bt s (i : Int) > 57
      · simp only [if_pos h2]
        rw [hno (by rw [hb]; simp [h2])]
        exact Ev.now _
      · simp only [if_neg h2]
        have htk : s.toList.take (i + 1) = s.toList.take i ++ [s.toList[i]] := List.take_succ_eq_append_getElem hli
        have hv := val_lt (s.toList.take i).length (s.toList.take i) rfl ha
        have hp : 10 ^ (s.toList.take i).length ≤ 10 ^ 5 := Nat.pow_le_pow_right (by decide) (by rw [List.length_take]; omega)
        have hd2 : isDig s.toList[i] = true := by rw [hb]; simp; omega
        have := ih (i + 1) (by omega) (by omega) (by rw [htk, List.all_append, ha]; simpa using hd2)
        rw [htk, val_snoc] at this
        rw [w64 (a := 10 * ((val (s.toList.take i) : Nat) : Int)) (by omega) (by omega), hbl]
        have hr := (isDig_iff s.toList[i]).1 hd2
        rw [show ((s.toList[i].toNat : Int) - 48) % 256 = ((s.toList[i].toNat - 48 : Nat) : Int) by omega, w64 (by omega) (by omega), w64 (by omega) (by omega)]
        exact_mod_cast this
where isDig_iff (c : UInt8) : isDig c = true ↔ 48 ≤ c.toNat ∧ c.toNat ≤ 57 := by unfold isDig; simp
theorem bt_head (s : ByteArray) (h : 0 < s.size) : (bt s 0 == 48) = (s.toList.headD 0 == 48) := by
  have hl := toList_len s
  have := bt_list s 0 h
  rw [show ((0 : Nat) : Int) = 0 from rfl] at this
  rw [this]
  obtain ⟨c, l, hs⟩ : ∃ c l, s.toList = c :: l := by
    cases hs : s.toList with
    | nil => rw [hs] at hl; simp at hl; omega
    | cons c l => exact ⟨c, l, rfl⟩
  have h0 : s.toList[0]'(by rw [hs]; simp) = c := by simp [hs]
  rw [h0, hs, List.headD_cons]
  rw [Bool.eq_iff_iff, beq_iff_eq, beq_iff_eq]
  constructor
  · intro hh
    exact UInt8.toNat_inj.1 (by simpa using (by omega : c.toNat = 48))
  · rintro rfl
    rfl
theorem numberOf_ev (s : ByteArray) (hs : s.size ≤ 10000000) : Ev (fun k => impl_numberOf.f k s) (numI s.toList) := by
  have hl := toList_len s
  unfold impl_numberOf.f
  have hgo : 1 ≤ s.size → s.size ≤ 5 → shape s.toList = true → Ev (fun k => impl_numberOf.j0 k s false) (numI s.toList) := by
    intro h1 h5 hsh
    refine Ev.step (fun k => by rw [impl_numberOf.j0]) ?_
    simp only [Bool.false_eq_true, if_false]
    have := num_loop s h5 (fun k x i => impl_numberOf.l0 k s x (s.size : Int) i) ((0 : Int), false) (fun x => (x, true)) (fun k x => by simp only [impl_numberOf.l0]; rw [if_neg (by omega)])
      (fun k x i hi => by simp only [impl_numberOf.l0]; rw [if_pos (by omega), if_pos (by omega), if_pos (by omega)]) s.size 0 (by omega) (by omega) rfl
    unfold numI
    rw [hsh, Bool.true_and]
    exact this
  have hstop : shape s.toList = false → Ev (fun k => impl_numberOf.j0 k s true) (numI s.toList) := by
    intro h
    refine Ev.step (fun k => by rw [impl_numberOf.j0]) ?_
    simp only [if_true]
    unfold numI
    rw [h]
    exact Ev.now _
  by_cases h1 : (s.size : Int) < 1
  · simp only [if_pos h1]
    exact hstop (by unfold shape; rw [hl, decide_eq_false (by omega)]; rfl)
  · simp only [if_neg h1]
    by_cases h5 : (s.size : Int) > 5
    · simp only [if_pos h5]
      exact hstop (by unfold shape; rw [hl, decide_eq_false (show ¬ s.size ≤ 5 by omega)]; simp)
    · simp only [if_neg h5]
      by_cases h2 : (s.size : Int) > 1
      · simp only [if_pos h2, if_pos (show (0 : Int) < (s.size : Int) by omega), bt_head s (by omega)]
        have hsh : shape s.toList = !(s.toList.headD 0 == 48) := by
          unfold shape
          rw [hl, decide_eq_true (show 1 ≤ s.size by omega), decide_eq_true (show s.size ≤ 5 by omega), decide_eq_true (show 1 < s.size by omega)]
          rfl
        cases hh : (s.toList.headD 0 == 48)
        · exact hgo (by omega) (by omega) (by rw [hsh, hh]; rfl)
        · exact hstop (by rw [hsh, hh]; rfl)
      · simp only [if_neg h2]
        exact hgo (by omega) (by omega) (by unfold shape; rw [hl, decide_eq_true (show 1 ≤ s.size by omega), decide_eq_true (show s.size ≤ 5 by omega), decide_eq_false (show ¬ 1 < s.size by omega)]; rfl)
end Go.Proofs.YteoicjlhkaljbaaDoor.Pu

namespace Go.Proofs.YteoicjlhkaljbaaDoor.Pu
open Go.RowKit Go.Proofs.YteoicjlhkaljbaaDoorW.PrintWords Go.Proofs.YteoicjlhkaljbaaDoorW.PrintLast Go.Proofs.YteoicjlhkaljbaaDoor.G
set_option linter.unusedVariables false
set_option linter.unusedSimpArgs false
def hexs : List UInt8 := [48, 49, 50, 51, 52, 53, 54, 55, 56, 57, 97, 98, 99, 100, 101, 102]
def hexI (c : UInt8) : Int := Lib.indexByte hexs c
theorem hexI_tab : ∀ c : Fin 256, hexI (UInt8.ofNat c.val) = if 48 ≤ c.val ∧ c.val ≤ 57 then (c.val : Int) - 48 else if 97 ≤ c.val ∧ c.val ≤ 102 then (c.val : Int) - 87 else -1 := by decide +kernel
theorem hexI_eq (c : UInt8) : hexI c = if 48 ≤ c.toNat ∧ c.toNat ≤ 57 then (c.toNat : Int) - 48 else if 97 ≤ c.toNat ∧ c.toNat ≤ 102 then (c.toNat : Int) - 87 else -1 := by
  have h := hexI_tab ⟨c.toNat, c.toNat_lt⟩
  simp only [UInt8.ofNat_toNat] at h
  exact h
theorem hexI_range (c : UInt8) : -1 ≤ hexI c ∧ hexI c < 16 := by rw [hexI_eq]; split; omega; split <;> omega
theorem hexI_hx (n : Nat) (h : n < 16) : hexI (hx n) = n := by
  have : ∀ i : Fin 16, hexI (hx i.val) = i.val := by decide +kernel
  exact this ⟨n, h⟩
theorem hx_hexI (c : UInt8) (h : 0 ≤ hexI c) : hx (hexI c).toNat = c := by
  have hh := hexI_eq c
  unfold hx
  split at hh
  · rw [hh, if_pos (by omega), show 48 + ((c.toNat : Int) - 48).toNat = c.toNat by omega]; simp
  · split at hh
    · rw [hh, if_neg (by omega), show 87 + ((c.toNat : Int) - 87).toNat = c.toNat by omega]; simp
    · omega
def unhexI : List UInt8 → Option (List Int)
  | a :: b :: r => if hexI a < 0 then none else if hexI b < 0 then none else (unhexI r).map (fun l => (16 * hexI a + hexI b) :: l)
  | _ => some []
def noPart : Bool × List Int × Bool := (false, [], false)
def partI (l : List UInt8) : Bool × List Int × Bool :=
  if l = [45] then (false, [], true) else if (decide (l.take 1 = [120]) && (decide ((l.drop 1).length % 2 = 0) && decide ((l.drop 1).length ≤ 24))) = true then (match unhexI (l.drop 1) with | some b => (true, b, true) | none => noPart) else noPart
theorem unhex_hex : ∀ l : List Int, l.all isB = true → unhexI (hexOf l) = some l
  | [], _ => rfl
  | x :: l, h => by
    rw [List.all_cons, Bool.and_eq_true, isB_iff] at h
    have ih := unhex_hex l h.2
    show unhexI (hx (x.toNat / 16) :: hx (x.toNat % 16) :: hexOf l) = _
    unfold unhexI
    rw [hexI_hx _ (by omega), hexI_hx _ (by omega), if_neg (by omega), if_neg (by omega), ih]
    simp only [Option.map_some, Option.some.injEq, List.cons.injEq, and_true]
    omega
theorem hex_unhex : ∀ (n : Nat) (l : List UInt8) (b : List Int), l.length ≤ n → l.length % 2 = 0 → unhexI l = some b → hexOf b = l ∧ b.all isB = true ∧ 2 * b.length = l.length := by
  intro n
  induction n with
  | zero =>
    intro l b hl _ h
    obtain rfl : l = [] := List.eq_nil_of_length_eq_zero (by omega)
    obtain rfl : [] = b := Option.some.inj h
    exact ⟨rfl, rfl, rfl⟩
  | succ n ih =>
    intro l b hl hm h
    match l, hl, hm, h with
    | [], _, _, h =>
      obtain rfl : [] = b := Option.some.inj h
      exact ⟨rfl, rfl, rfl⟩
    | [_], _, hm, _ => simp at hm
    | a :: c :: r, hl, hm, h =>
      simp only [List.length_cons] at hl hm
      unfold unhexI at h
      by_cases h1 : hexI a < 0
      · rw [if_pos h1] at h; cases h
      · by_cases h2 : hexI c < 0
        · rw [if_neg h1, if_pos h2] at h; cases h
        · rw [if_neg h1, if_neg h2] at h
          obtain ⟨b', hb, rfl⟩ := Option.map_eq_some_iff.1 h
          obtain ⟨e1, e2, e3⟩ := ih r b' (by omega) (by omega) hb
          have ra := hexI_range a
          have rc := hexI_range c
          refine ⟨?_, ?_, by simp only [List.length_cons]; omega⟩
          · show hx ((16 * hexI a + hexI c).toNat / 16) :: hx ((16 * hexI a + hexI c).toNat % 16) :: hexOf b' = _
            rw [e1, show (16 * hexI a + hexI c).toNat / 16 = (hexI a).toNat by omega, show (16 * hexI a + hexI c).toNat % 16 = (hexI c).toNat by omega, hx_hexI a (by omega), hx_hexI c (by omega)]
          · rw [List.all_cons, e2, Bool.and_true, isB_iff]
            omega
theorem partI_part {has : Bool} {l : List Int} (h : partOk has l = true) : partI (partT has l) = (has, l, true) := by
  unfold partOk at h
  unfold partI partT
  cases has
  · simp only [Bool.false_eq_true, if_false, decide_eq_true_eq] at h
    rw [List.eq_nil_of_length_eq_zero h]
    rfl
  · simp only [if_true, Bool.and_eq_true, decide_eq_true_eq] at h
    simp only [if_true]
    have hl := hexOf_len l
    rw [if_neg (by intro e; have := congrArg (fun l => l.headD 0) e; simp at this)]
    have e1 : List.take 1 (120 :: hexOf l) = [120] := rfl
    have e2 : List.drop 1 (120 :: hexOf l) = hexOf l := rfl
    rw [e1, e2, hl, decide_eq_true rfl, decide_eq_true (show 2 * l.length % 2 = 0 by omega), decide_eq_true (show 2 * l.length ≤ 24 by omega), unhex_hex l h.2]
    rfl
theorem partI_inv {w : List UInt8} {has : Bool} {l : List Int} (h : partI w = (has, l, true)) : partT has l = w ∧ partOk has l = true := by
  unfold partI at h
  by_cases h1 : w = [45]
  · rw [if_pos h1] at h
    obtain ⟨rfl, h2⟩ : has = false ∧ l = [] := by simp only [Prod.mk.injEq] at h; exact ⟨h.1.symm, h.2.1.symm⟩
    subst h2
    exact ⟨h1.symm, rfl⟩
  · rw [if_neg h1] at h
    by_cases h2 : (decide (w.take 1 = [120]) && (decide ((w.drop 1).length % 2 = 0) && decide ((w.drop 1).length ≤ 24))) = true
    · rw [if_pos h2] at h
      simp only [Bool.and_eq_true, decide_eq_true_eq] at h2
      cases hu : unhexI (w.drop 1) with
      | none => rw [hu] at h; simp [noPart] at h
      | some b =>
        rw [hu] at h
        simp only [Prod.mk.injEq] at h
        obtain ⟨rfl, rfl, _⟩ := h
        obtain ⟨e1, e2, e3⟩ := hex_unhex _ _ _ (Nat.le_refl _) h2.2.1 hu
        refine ⟨?_, ?_⟩
        · unfold partT
          rw [if_pos rfl, e1]
          have := List.take_append_drop 1 w
          rw [h2.1] at this
          exact this
        · unfold partOk
          rw [if_pos rfl, e2, Bool.and_true]
          exact decide_eq_true (by omega)
    · rw [if_neg h2] at h
      simp [noPart] at h
theorem idx_some (s : ByteArray) (i : Nat) (h : i < s.toList.length) : strings_IndexByte.f (⟨#[48, 49, 50, 51, 52, 53, 54, 55, 56, 57, 97, 98, 99, 100, 101, 102]⟩ : ByteArray) (bt s (i : Int)) = some (hexI s.toList[i]) := by
  rw [bt_list s i (by rw [← toList_len]; exact h)]
  unfold strings_IndexByte.f hexI hexs
  congr 2
  show ((s.toList[i].toNat : Int).toNat).toUInt8 = s.toList[i]
  rw [Int.toNat_natCast]
  simp
theorem or16 (a b : Int) (h0 : 0 ≤ a) (h1 : a < 16) (k0 : 0 ≤ b) (k1 : b < 16) : bits .or .i64 (a * 16) b = 16 * a + b := by
  rw [bits_join .i64 62 (by decide) (fun n h0 h1 => by rw [IntKind.wrap_i64]; omega) 4 (a * 16) b (by omega) (by omega) (by omega) k0 (by omega) (by omega)]
  omega
theorem part_loop41 (s : ByteArray) (hs : s.size ≤ 24) (hm : s.size % 2 = 0) : ∀ d (i : Nat) (out : List Int), s.size - i = d → i ≤ s.size → i % 2 = 0 → out.length ≤ i →
    Ev (fun k => impl_partOf.l0 k s out (i : Int)) (match unhexI (s.toList.drop i) with | some b => (true, out ++ b, true) | none => noPart) := by
  have hl := toList_len s
  intro d
  induction d using Nat.strongRecOn with
  | ind d ih =>
    intro i out hd hi hi2 ho
    by_cases hlt : i < s.size
    · have h0 : i < s.toList.length := by omega
      have h1 : i + 1 < s.toList.length := by omega
      refine Ev.step (fun k => by rw [impl_partOf.l0]) ?_
      rw [List.drop_eq_getElem_cons h0, List.drop_eq_getElem_cons h1]
      simp only [if_pos (show (i : Int) < (s.size : Int) by omega), if_pos (show (0 : Int) ≤ (i : Int) by omega), w64 (a := (i : Int) + 1) (by omega) (by omega), if_pos (show (0 : Int) ≤ (i : Int) + 1 by omega), if_pos (show (i : Int) + 1 < (s.size : Int) by omega), idx_some s i h0, bindS]
      have hx1 := idx_some s (i + 1) h1
      rw [show ((i + 1 : Nat) : Int) = (i : Int) + 1 by omega] at hx1
      simp only [hx1, bindS]
      have ra := hexI_range s.toList[i]
      have rb := hexI_range (s.toList[i + 1]'h1)
      have hun : unhexI (s.toList[i] :: (s.toList[i + 1]'h1) :: s.toList.drop (i + 1 + 1)) = if hexI s.toList[i] < 0 then none else if hexI (s.toList[i + 1]'h1) < 0 then none else (unhexI (s.toList.drop (i + 1 + 1))).map (fun l => (16 * hexI s.toList[i] + hexI (s.toList[i + 1]'h1)) :: l) := by conv => lhs; unfold unhexI
      rw [hun]
      by_cases ha : hexI s.toList[i] < 0
      · simp only [if_pos ha]
        exact Ev.now _
      · simp only [if_neg ha]
        by_cases hb : hexI (s.toList[i + 1]'h1) < 0
        · simp only [if_pos hb]
          exact Ev.now _
        · simp only [if_neg hb, if_pos (show out.length < 17592186044416 by omega), w64 (a := hexI s.toList[i] * 16) (by omega) (by omega), or16 _ _ (by omega) ra.2 (by omega) rb.2, w64 (a := (i : Int) + 2) (by omega) (by omega)]
          have := ih (s.size - (i + 2)) (by omega) (i + 2) (out ++ [16 * hexI s.toList[i] + hexI (s.toList[i + 1]'h1)]) rfl (by omega) (by omega) (by simp; omega)
          rw [show ((i + 2 : Nat) : Int) = (i : Int) + 2 by omega] at this
          cases hu : unhexI (s.toList.drop (i + 1 + 1)) with
          | none => rw [show i + 2 = i + 1 + 1 from rfl, hu] at this; exact this
          | some b => rw [show i + 2 = i + 1 + 1 from rfl, hu] at this; simpa using this
    · obtain rfl : i = s.size := by omega
      refine Ev.step (fun k => by rw [impl_partOf.l0]) ?_
      simp only [if_neg (show ¬ ((s.size : Nat) : Int) < (s.size : Int) by omega)]
      rw [List.drop_of_length_le (by omega)]
      simp only [unhexI, List.append_nil]
      exact Ev.now _
theorem cutPrefix_some (s : ByteArray) : strings_CutPrefix.f s (⟨#[120]⟩ : ByteArray) = if s.toList.take 1 = [120] then some (s.extract 1 s.size, true) else some (s, false) := by
  have hl := toList_len s
  have hz : (ByteArray.mk #[120]).size = 1 := rfl
  have h120 : (ByteArray.mk #[120]).toList = [120] := toList_mk [120]
  unfold strings_CutPrefix.f stringslite_CutPrefix.f stringslite_HasPrefix.f
  simp only [hz]
  by_cases h : (s.size : Int) ≥ 1
  · simp only [if_pos h, if_pos (show (0 : Int) ≤ ((1 : Nat) : Int) by omega), if_pos (show ((1 : Nat) : Int) ≤ (s.size : Int) by omega), bindS, h120]
    have e : (s.extract 0 ((1 : Nat) : Int).toNat).toList = s.toList.take 1 := by rw [extract_list]; rfl
    rw [e]
    by_cases hp : s.toList.take 1 = [120]
    · rw [hp, if_pos rfl]
      rfl
    · rw [if_neg hp, if_neg (by simpa using hp)]
      rfl
  · have hn : s.toList.take 1 ≠ [120] := by
      intro e
      have := congrArg List.length e
      rw [List.length_take] at this
      simp at this
      omega
    simp only [if_neg (show ¬ ((s.size : Int) ≥ ((1 : Nat) : Int)) by omega), bindS, if_neg hn]
    rfl
theorem partOf_ev (s : ByteArray) (hs : s.size ≤ 10000000) : Ev (fun k => impl_partOf.f k s) (partI s.toList) := by
  have hl := toList_len s
  unfold impl_partOf.f partI
  by_cases h1 : s.toList = [45]
  · simp only [if_pos h1]
    exact Ev.now _
  · simp only [if_neg h1, cutPrefix_some]
    have hstop : ∀ t : ByteArray, Ev (fun k => impl_partOf.j0 k t true) noPart := fun t => Ev.step (fun k => by rw [impl_partOf.j0]) (by simp only [if_true]; exact Ev.now _)
    by_cases hp : s.toList.take 1 = [120]
    · have hex : (s.extract 1 s.size).toList = s.toList.drop 1 := by
        rw [extract_list]
        exact List.take_of_length_le (by rw [List.length_drop]; omega)
      have hsz : (s.extract 1 s.size).size = (s.toList.drop 1).length := by rw [← toList_len, hex]
      simp only [if_pos hp, bindS, if_true, hsz]
      rw [decide_eq_true hp, Bool.true_and]
      by_cases h2 : ((s.toList.drop 1).length : Int) % 2 = 1
      · simp only [if_pos h2]
        rw [decide_eq_false (by omega)]
        exact hstop _
      · simp only [if_neg h2]
        rw [decide_eq_true (show (s.toList.drop 1).length % 2 = 0 by omega), Bool.true_and]
        by_cases h3 : (s.toList.drop 1).length ≤ 24
        · rw [decide_eq_true h3, decide_eq_false (by omega)]
          simp only [if_true]
          refine Ev.step (fun k => by rw [impl_partOf.j0]) ?_
          simp only [Bool.false_eq_true, if_false]
          have := part_loop41 (s.extract 1 s.size) (by omega) (by omega) _ 0 [] rfl (by omega) rfl (by simp)
          rw [List.drop_zero, hex] at this
          simpa using this
        · rw [decide_eq_false h3, decide_eq_true (by omega)]
          simp only [Bool.false_eq_true, if_false]
          exact hstop _
    · simp only [if_neg hp, bindS, Bool.false_eq_true, if_false]
      rw [decide_eq_false hp, Bool.false_and]
      simp only [Bool.false_eq_true, if_false]
      exact hstop _
end Go.Proofs.YteoicjlhkaljbaaDoor.Pu

namespace Go.Proofs.YteoicjlhkaljbaaDoor.Pu
open Go.RowKit Go.Proofs.YteoicjlhkaljbaaDoorW.PrintWords Go.Proofs.YteoicjlhkaljbaaDoorW.PrintLast Go.Proofs.YteoicjlhkaljbaaDoor.G
set_option linter.unusedVariables false
set_option linter.unusedSimpArgs false
def lineV (r : S25) : ByteArray := if recOk r = true then ⟨(textOf r).toArray⟩ else ⟨#[]⟩
theorem partT_len (has : Bool) (l : List Int) (h : l.length ≤ 12) : (partT has l).length ≤ 25 := by unfold partT; split; simp only [List.length_cons, hexOf_len]; omega; simp
theorem text_len {r : S25} (h : recOk r = true) : (textOf r).length ≤ 63 := by
  obtain ⟨h0, h1, _⟩ := recOk_parts h
  have hl := recOk_len h
  have la := dec_len r.f0.toNat 4 (by omega)
  have lb := dec_len r.f1.toNat 4 (by omega)
  have lp := partT_len r.f2 r.f3 hl.1
  have lq := partT_len r.f4 r.f5 hl.2
  unfold textOf
  simp only [List.length_append, List.length_cons]
  omega
theorem partText_some (has : Bool) (l : List Int) (hl : l.length ≤ 12) (ho : has = true → l.all isB = true) : impl_partText.f has l = some ⟨(partT has l).toArray⟩ := by
  unfold impl_partText.f partT
  cases has
  · rfl
  · have hs : hexT l = ⟨(hexOf l).toArray⟩ := by unfold hexT; rw [if_pos (ho rfl)]
    simp only [if_true, impl_BytesText.f, if_pos (show l.length ≤ 1000000 by omega), bindS, hs]
    rw [if_pos (by rw [size_mk, hexOf_len]; omega), show (⟨#[120]⟩ : ByteArray) = ByteArray.mk [120].toArray from rfl, app_mk]
    rfl
theorem itoa_some (n : Int) (h0 : 0 ≤ n) (h1 : n ≤ 99999) : strconv_Itoa_67.f n = some ⟨(dec n.toNat).toArray⟩ := by
  unfold strconv_Itoa_67.f
  rw [if_pos (by omega)]
theorem words_some {r : S25} (h : recOk r = true) : impl_recordWords.f r.f0 r.f1 r.f2 r.f3 r.f4 r.f5 = some [⟨(dec r.f0.toNat).toArray⟩, ⟨(dec r.f1.toNat).toArray⟩, ⟨(partT r.f2 r.f3).toArray⟩, ⟨(partT r.f4 r.f5).toArray⟩] := by
  obtain ⟨h0, h1, h2, h3, _, _⟩ := recOk_parts h
  have hl := recOk_len h
  unfold impl_recordWords.f
  simp only [itoa_some _ h0.1 h0.2, itoa_some _ h1.1 h1.2, partText_some _ _ hl.1 h2, partText_some _ _ hl.2 h3, bindS]
theorem join_four (a b c d : List UInt8) : Lib.join [a, b, c, d] [32] = a ++ 32 :: (b ++ 32 :: (c ++ 32 :: d)) := by
  simp [Lib.join, List.intercalate]
theorem RecordText_ev (r : S25) (hr : Lens r) : Ev (fun k => impl_RecordText.f k r.f0 r.f1 r.f2 r.f3 r.f4 r.f5) (lineV r) := by
  unfold impl_RecordText.f lineV
  refine Ev.bind (RecordValid_ev r hr) ?_
  by_cases h : recOk r = true
  · have hl := text_len h
    simp only [h, if_true, words_some h, bindS]
    have e : Lib.join (List.map (fun x => x.data.toList) [(⟨(dec r.f0.toNat).toArray⟩ : ByteArray), ⟨(dec r.f1.toNat).toArray⟩, ⟨(partT r.f2 r.f3).toArray⟩, ⟨(partT r.f4 r.f5).toArray⟩]) (ByteArray.mk #[32]).data.toList = textOf r := join_four _ _ _ _
    unfold strings_Join.f
    rw [e, if_pos ⟨by omega, by simp⟩]
    exact Ev.now _
  · have h' : recOk r = false := by simpa using h
    simp only [h', Bool.false_eq_true, if_false]
    exact Ev.now _
theorem sRecordText_ev (r : S25) (hr : Lens r) : Ev (fun k => spec_RecordText.f k r.f0 r.f1 r.f2 r.f3 r.f4 r.f5) (lineV r) := by
  unfold spec_RecordText.f lineV
  refine Ev.bind (sRecordValid_ev r hr) ?_
  by_cases h : recOk r = true
  · simp only [h, if_true]
    exact Ev.bind (text_ev r h) (Ev.now _)
  · have h' : recOk r = false := by simpa using h
    simp only [h', Bool.false_eq_true, if_false]
    exact Ev.now _
theorem lineV_list (r : S25) : (lineV r).toList = if recOk r = true then textOf r else [] := by
  unfold lineV
  split
  · exact toList_mk _
  · exact toList_mk []
theorem lineV_size (r : S25) : (lineV r).size ≤ 63 := by
  unfold lineV
  split
  · rename_i h; rw [size_mk]; exact text_len h
  · simp [ByteArray.size]
theorem text_ne (r : S25) : textOf r ≠ [] := by
  unfold textOf
  simp
end Go.Proofs.YteoicjlhkaljbaaDoor.Pu

namespace Go.Proofs.YteoicjlhkaljbaaDoor.Pu
open Go.RowKit Go.Proofs.YteoicjlhkaljbaaDoorW.PrintWords Go.Proofs.YteoicjlhkaljbaaDoorW.PrintLast Go.Proofs.YteoicjlhkaljbaaDoor.G
set_option linter.unusedVariables false
set_option linter.unusedSimpArgs false
abbrev Rec := S25
def tup (r : Rec) : RecR := (r.f0, r.f1, r.f2, r.f3, r.f4, r.f5, true)
/-- The one record with this line. -/
noncomputable def recV (s : List UInt8) : RecR := open Classical in if h : ∃ r : Rec, recOk r = true ∧ textOf r = s then tup h.choose else noRec
theorem recV_some {r : Rec} (h : recOk r = true) : recV (textOf r) = tup r := by
  unfold recV
  have hx : ∃ r' : Rec, recOk r' = true ∧ textOf r' = textOf r := ⟨r, h, rfl⟩
  rw [dif_pos hx]
  congr 1
  exact text_inj hx.choose_spec.1 h hx.choose_spec.2
theorem recV_none {s : List UInt8} (h : ∀ r : Rec, recOk r = true → textOf r ≠ s) : recV s = noRec := by
  unfold recV
  rw [dif_neg (fun ⟨r, h1, h2⟩ => h r h1 h2)]
theorem recOk_mk {a b : Nat} {h2 h4 : Bool} {l3 l5 : List Int} : recOk (⟨(a : Int), (b : Int), h2, l3, h4, l5⟩ : Rec) = (decide (a ≤ 99999) && decide (b ≤ 99999) && (partOk h2 l3 && partOk h4 l5)) := by
  unfold recOk rng
  simp only
  rw [decide_eq_true (show (0 : Int) ≤ (a : Int) by omega), decide_eq_true (show (0 : Int) ≤ (b : Int) by omega), Bool.true_and, Bool.true_and]
  rw [show decide ((a : Int) ≤ 99999) = decide (a ≤ 99999) from decide_eq_decide.2 (by omega), show decide ((b : Int) ≤ 99999) = decide (b ≤ 99999) from decide_eq_decide.2 (by omega)]
theorem split_text {r : Rec} (h : recOk r = true) : splitL (textOf r) = [dec r.f0.toNat, dec r.f1.toNat, partT r.f2 r.f3, partT r.f4 r.f5] := by
  obtain ⟨_, _, h2, h3, _, _⟩ := recOk_parts h
  unfold textOf
  rw [splitL_app (dec_no _), splitL_app (dec_no _), splitL_app (part_no _ _ h2), splitL_none (part_no _ _ h3)]
theorem recOk_part {r : Rec} (h : recOk r = true) : partOk r.f2 r.f3 = true ∧ partOk r.f4 r.f5 = true := by
  unfold recOk at h
  simp only [Bool.and_eq_true] at h
  exact h.2
theorem text_of_four {s a b c d : List UInt8} (h : splitL s = [a, b, c, d]) : s = a ++ 32 :: (b ++ 32 :: (c ++ 32 :: d)) := by
  have := (splitL_join s).1
  rw [h, join_four] at this
  exact this.symm
theorem rd_four (ws : List ByteArray) (a b c d : List UInt8) (h : ws.map ByteArray.toList = [a, b, c, d]) : ws.length = 4 ∧ (rdOf ByteArray.empty ws 0).toList = a ∧ (rdOf ByteArray.empty ws 1).toList = b ∧ (rdOf ByteArray.empty ws 2).toList = c ∧ (rdOf ByteArray.empty ws 3).toList = d := by
  match ws, h with
  | [x, y, z, u], h =>
    simp only [List.map_cons, List.map_nil, List.cons.injEq, and_true] at h
    exact ⟨rfl, h.1, h.2.1, h.2.2.1, h.2.2.2⟩
theorem piece_len {l p : List UInt8} (h : p ∈ splitL l) : p.length ≤ l.length := by
  induction l generalizing p with
  | nil => simp [splitL] at h; rw [h]; simp
  | cons c l ih =>
    unfold splitL at h
    split at h
    · rcases List.mem_cons.1 h with rfl | h
      · simp
      · have := ih h; simp only [List.length_cons]; omega
    · rcases List.mem_cons.1 h with rfl | h
      · cases hs : splitL l with
        | nil => exact absurd hs (splitL_ne l)
        | cons q qs => have := ih (p := q) (by rw [hs]; simp); simp only [List.headD_cons, List.length_cons]; omega
      · have := ih (List.mem_of_mem_tail h); simp only [List.length_cons]; omega
/-- The program. -/
theorem RecordOf_ev (s : ByteArray) (hs : s.size ≤ 10000000) : Ev (fun k => impl_RecordOf.f k s) (recV s.toList) := by
  have hl := toList_len s
  unfold impl_RecordOf.f strings_Split.f
  rw [if_pos ⟨by omega, by decide⟩]
  simp only [bindS]
  have hws := splitB_list s
  simp only [← toList_data] at hws
  generalize Lib.splitB ⟨#[32]⟩ 0 (Lib.countB s ⟨#[32]⟩) s = ws at hws
  by_cases h4 : ws.length = 4
  · simp only [if_pos h4]
    obtain ⟨a, b, c, d, hsp⟩ : ∃ a b c d, splitL s.toList = [a, b, c, d] := by
      rw [← hws]
      match ws, h4 with
      | [x, y, z, u], _ => exact ⟨_, _, _, _, rfl⟩
    obtain ⟨_, e0, e1, e2, e3⟩ := rd_four ws a b c d (hws.trans hsp)
    have hsz : ∀ p ∈ splitL s.toList, p.length ≤ 10000000 := fun p hp => Nat.le_trans (piece_len hp) (by omega)
    rw [hsp] at hsz
    have z0 : (rdOf ByteArray.empty ws 0).size ≤ 10000000 := by rw [← toList_len, e0]; exact hsz a (by simp)
    have z1 : (rdOf ByteArray.empty ws 1).size ≤ 10000000 := by rw [← toList_len, e1]; exact hsz b (by simp)
    have z2 : (rdOf ByteArray.empty ws 2).size ≤ 10000000 := by rw [← toList_len, e2]; exact hsz c (by simp)
    have z3 : (rdOf ByteArray.empty ws 3).size ≤ 10000000 := by rw [← toList_len, e3]; exact hsz d (by simp)
    have n0 := numberOf_ev _ z0
    have n1 := numberOf_ev _ z1
    have p2 := partOf_ev _ z2
    have p3 := partOf_ev _ z3
    rw [e0] at n0
    rw [e1] at n1
    rw [e2] at p2
    rw [e3] at p3
    refine Ev.bind n0 (Ev.bind n1 (Ev.bind p2 (Ev.bind p3 ?_)))
    have htx := text_of_four hsp
    by_cases hg : ((numI a).2 && (numI b).2 && (partI c).2.2 && (partI d).2.2) = true
    · simp only [Bool.and_eq_true] at hg
      obtain ⟨⟨⟨g0, g1⟩, g2⟩, g3⟩ := hg
      obtain ⟨m0, q0, l0, d0⟩ := numI_inv (l := a) (n := (numI a).1) (by rw [← g0])
      obtain ⟨m1, q1, l1, d1⟩ := numI_inv (l := b) (n := (numI b).1) (by rw [← g1])
      obtain ⟨t2, k2⟩ := partI_inv (w := c) (has := (partI c).1) (l := (partI c).2.1) (by rw [← g2])
      obtain ⟨t3, k3⟩ := partI_inv (w := d) (has := (partI d).1) (l := (partI d).2.1) (by rw [← g3])
      have hok : recOk (⟨(numI a).1, (numI b).1, (partI c).1, (partI c).2.1, (partI d).1, (partI d).2.1⟩ : Rec) = true := by
        rw [q0, q1, recOk_mk, decide_eq_true l0, decide_eq_true l1, k2, k3]
        rfl
      have htext : textOf (⟨(numI a).1, (numI b).1, (partI c).1, (partI c).2.1, (partI d).1, (partI d).2.1⟩ : Rec) = s.toList := by
        unfold textOf
        simp only
        rw [q0, q1, Int.toNat_natCast, Int.toNat_natCast, d0, d1, t2, t3]
        exact htx.symm
      have hL := recOk_len hok
      simp only [g0, g1, g2, g3, Bool.and_self, if_true]
      refine Ev.bind (RecordValid_ev (⟨(numI a).1, (numI b).1, (partI c).1, (partI c).2.1, (partI d).1, (partI d).2.1⟩ : Rec) ⟨by omega, by omega⟩) ?_
      rw [hok]
      simp only [if_true]
      rw [← htext, recV_some hok]
      exact Ev.now _
    · simp only [if_neg hg]
      rw [recV_none (fun r hr he => hg ?_)]
      · exact Ev.now _
      · have h2 := split_text hr
        rw [he, hsp] at h2
        simp only [List.cons.injEq, and_true] at h2
        obtain ⟨r0, r1, _⟩ := recOk_parts hr
        obtain ⟨pk2, pk3⟩ := recOk_part hr
        rw [h2.1, h2.2.1, h2.2.2.1, h2.2.2.2, numI_dec _ (by omega), numI_dec _ (by omega), partI_part pk2, partI_part pk3]
        rfl
  · simp only [if_neg h4]
    rw [recV_none (fun r hr he => h4 ?_)]
    · exact Ev.now _
    · have h2 := split_text hr
      rw [he, ← hws] at h2
      exact (rd_four ws _ _ _ _ h2).1
end Go.Proofs.YteoicjlhkaljbaaDoor.Pu

namespace Go.Proofs.YteoicjlhkaljbaaDoor.Pu
open Go.RowKit Go.Proofs.YteoicjlhkaljbaaDoorW.PrintWords Go.Proofs.YteoicjlhkaljbaaDoorW.PrintLast Go.Proofs.YteoicjlhkaljbaaDoorW.PrintMore Go.Proofs.YteoicjlhkaljbaaDoor.G
set_option linter.unusedVariables false
set_option linter.unusedSimpArgs false
/-- Rows of records that can be told. -/
def RowR (l : List S25) : Prop := l.length ≤ 9223372036854775807 ∧ ∀ r ∈ l, Lens r
theorem RowR.rd {l : List S25} (h : RowR l) (i : Nat) (hi : i < l.length) : Lens (rd_T25 l (i : Int)) := by
  rw [rdR_nat l i hi]
  exact h.2 _ (List.getElem_mem _)
/-! rows of batches -/
theorem rdB_nat (l : List S84) (i : Nat) (h : i < l.length) : rd_T84 l (i : Int) = l[i] := by
  unfold rd_T84
  simp [h]
/-- Rows of batches that can be told. -/
def RowB (l : List S84) : Prop := l.length ≤ 9223372036854775807 ∧ ∀ b ∈ l, RowR b.f5
theorem RowB.rd {l : List S84} (h : RowB l) (i : Nat) (hi : i < l.length) : RowR (rd_T84 l (i : Int)).f5 := by
  rw [rdB_nat l i hi]
  exact h.2 _ (List.getElem_mem _)
end Go.Proofs.YteoicjlhkaljbaaDoor.Pu

namespace Go.Proofs.YteoicjlhkaljbaaDoor.Pu
open Go.RowKit Go.Proofs.YteoicjlhkaljbaaDoorW.PrintWords Go.Proofs.YteoicjlhkaljbaaDoorW.PrintLast Go.Proofs.YteoicjlhkaljbaaDoor.G
set_option linter.unusedVariables false
set_option linter.unusedSimpArgs false
theorem xor_i64 (a b : Int) (h0 : 0 ≤ a) (h1 : a < 4611686018427387904) (k0 : 0 ≤ b) (k1 : b < 4611686018427387904) : 0 ≤ bits .xor .i64 a b := by
  obtain ⟨a, rfl⟩ := Int.eq_ofNat_of_zero_le h0
  obtain ⟨b, rfl⟩ := Int.eq_ofNat_of_zero_le k0
  have ha : a < 2 ^ 62 := by omega
  have hb : b < 2 ^ 62 := by omega
  have hx := Nat.xor_lt_two_pow ha hb
  have ha' : a % 2 ^ 64 = a := Nat.mod_eq_of_lt (by omega)
  have hb' : b % 2 ^ 64 = b := Nat.mod_eq_of_lt (by omega)
  show 0 ≤ IntKind.i64.wrap ((BitVec.ofInt 64 (a : Int) ^^^ BitVec.ofInt 64 (b : Int)).toNat : Int)
  rw [BitVec.ofInt_natCast, BitVec.ofInt_natCast, BitVec.toNat_xor, BitVec.toNat_ofNat, BitVec.toNat_ofNat, ha', hb', IntKind.wrap_i64]
  omega
theorem rd_range {b : List Int} (hb : ∀ x ∈ b, 0 ≤ x ∧ x ≤ 255) (i : Int) : 0 ≤ rd b i ∧ rd b i ≤ 255 := by
  unfold rd
  rw [List.getD_eq_getElem?_getD]
  rcases h : b[i.toNat]? with _ | x
  · simp
  · exact hb x (List.mem_of_getElem? h)
theorem mod_range {x n : Int} (h0 : 0 ≤ x) (h1 : 1 ≤ n) : 0 ≤ Int.tmod x n ∧ Int.tmod x n < n := by
  rw [Int.tmod_eq_emod_of_nonneg h0]
  exact ⟨Int.emod_nonneg _ (by omega), Int.emod_lt_of_pos _ (by omega)⟩
/-- A code that is read: bytes, and a place that is no great number. -/
def CodeOk (b : List Int) : Prop := b.length ≤ 2000 ∧ ∀ x ∈ b, 0 ≤ x ∧ x ≤ 255
theorem pick_ends {b : List Int} (hb : CodeOk b) (p n : Int) (h0 : 0 ≤ p) (h1 : p ≤ 1000000000) (hn : n ≤ 4611686018427387904) :
    EndsIn (fun k => spec_l6Rd_pick.f k b p n) (fun r => r.2 = p + 1 ∧ 0 ≤ r.1 ∧ (1 ≤ n → r.1 < n) ∧ (n < 1 → r.1 = 0)) := by
  obtain ⟨hl, hr⟩ := hb
  unfold spec_l6Rd_pick.f
  rw [w64 (a := p + 1) (by omega) (by omega)]
  by_cases hn1 : n < 1
  · simp only [if_pos hn1]
    refine EndsIn.step (fun k => by rw [spec_l6Rd_pick.j0]) ?_
    simp only [if_true]
    exact EndsIn.now _ ⟨rfl, by omega, by omega, fun _ => rfl⟩
  · simp only [if_neg hn1]
    refine EndsIn.step (fun k => by rw [spec_l6Rd_pick.j0]) ?_
    rw [show p + 1 - 1 = p by omega, w64 (a := p) (by omega) (by omega)]
    by_cases hz : (b.length : Int) = 0
    · have : ((b.length : Int) == 0) = true := by simpa using hz
      simp only [this, if_true]
      exact EndsIn.now _ ⟨rfl, by omega, by omega, fun h => by omega⟩
    · have hz' : ((b.length : Int) == 0) = false := by simpa using hz
      simp only [hz', Bool.false_eq_true, if_false]
      by_cases hp : p < (b.length : Int)
      · have hx := rd_range hr p
        simp only [if_pos hp, if_pos h0, if_neg (show ¬ n = 0 by omega)]
        rw [w64 (a := rd b p) (by omega) (by omega)]
        have hm := mod_range (x := rd b p) (n := n) hx.1 (by omega)
        exact EndsIn.now _ ⟨rfl, hm.1, fun _ => hm.2, fun h => by omega⟩
      · have hm1 := mod_range (x := p) (n := (b.length : Int)) h0 (by omega)
        have h7 : wrap64 (wrap64 (p * 7) + 3) = p * 7 + 3 := by
          rw [w64 (a := p * 7) (by omega) (by omega), w64 (by omega) (by omega)]
        have hm2 := mod_range (x := p * 7 + 3) (n := (b.length : Int)) (by omega) (by omega)
        simp only [if_neg hp, if_neg hz, h7, if_pos hm1.1, if_pos hm1.2, if_pos hm2.1, if_pos hm2.2, if_neg (show ¬ n = 0 by omega)]
        have hx1 := rd_range hr (Int.tmod p b.length)
        have hx2 := rd_range hr (Int.tmod (p * 7 + 3) b.length)
        generalize rd b (Int.tmod p b.length) = x1 at hx1 ⊢
        generalize rd b (Int.tmod (p * 7 + 3) b.length) = x2 at hx2 ⊢
        have hd : 0 ≤ Int.tdiv p (b.length : Int) ∧ Int.tdiv p (b.length : Int) ≤ p := by
          rw [Int.tdiv_eq_ediv_of_nonneg h0]
          exact ⟨Int.ediv_nonneg h0 (by omega), Int.ediv_le_self _ h0⟩
        generalize Int.tdiv p (b.length : Int) = q at hd ⊢
        have e1 : wrap64 x1 = x1 := w64 (by omega) (by omega)
        have e2 : wrap64 x2 = x2 := w64 (by omega) (by omega)
        have e3 : wrap64 (x1 * 131) = x1 * 131 := w64 (by omega) (by omega)
        have e4 : wrap64 (x2 * 1117) = x2 * 1117 := w64 (by omega) (by omega)
        have e5 : wrap64 (x1 * 131 + x2 * 1117) = x1 * 131 + x2 * 1117 := w64 (by omega) (by omega)
        have e6 : wrap64 (p * 29) = p * 29 := w64 (by omega) (by omega)
        have e7 : wrap64 (x1 * 131 + x2 * 1117 + p * 29) = x1 * 131 + x2 * 1117 + p * 29 := w64 (by omega) (by omega)
        have e8 : wrap64 q = q := w64 (by omega) (by omega)
        have e9 : wrap64 (q * 53) = q * 53 := w64 (by omega) (by omega)
        have e10 : wrap64 (x1 * 131 + x2 * 1117 + p * 29 + q * 53) = x1 * 131 + x2 * 1117 + p * 29 + q * 53 := w64 (by omega) (by omega)
        simp only [e1, e2, e3, e4, e5, e6, e7, e8, e9, e10]
        have hX : 0 ≤ x1 * 131 + x2 * 1117 + p * 29 + q * 53 ∧ x1 * 131 + x2 * 1117 + p * 29 + q * 53 < 4611686018427387904 := ⟨by omega, by omega⟩
        generalize x1 * 131 + x2 * 1117 + p * 29 + q * 53 = X at hX ⊢
        have e11 : wrap64 (Int.tdiv X 64) = X / 64 := by
          rw [Int.tdiv_eq_ediv_of_nonneg hX.1]
          exact w64 (by omega) (by omega)
        rw [e11]
        have hxx := xor_i64 X (X / 64) hX.1 hX.2 (by omega) (by omega)
        have hm := mod_range (n := n) hxx (by omega)
        exact EndsIn.now _ ⟨rfl, hm.1, fun _ => hm.2, fun h => by omega⟩
end Go.Proofs.YteoicjlhkaljbaaDoor.Pu

namespace Go.Proofs.YteoicjlhkaljbaaDoor.Pu
open Go.RowKit Go.Proofs.YteoicjlhkaljbaaDoorW.PrintWords Go.Proofs.YteoicjlhkaljbaaDoorW.PrintLast Go.Proofs.YteoicjlhkaljbaaDoorW.PrintMore Go.Proofs.YteoicjlhkaljbaaDoor.G
set_option linter.unusedVariables false
set_option linter.unusedSimpArgs false
theorem part_loop {b : List Int} (hb : CodeOk b) (n : Int) (hn : n ≤ 12) : ∀ d (i : Nat) (l : List Int) (p : Int), 12 - i = d → l.length = i → i ≤ 12 → 0 ≤ p → p ≤ 900000000 + 2 * (i : Int) →
    EndsIn (fun k => spec_l91Part.l0 k l n (i : Int) b p) (fun r => r.2.1.length ≤ 12 ∧ p ≤ r.2.2 ∧ r.2.2 ≤ p + 2 * (12 - (i : Int))) := by
  intro d
  induction d with
  | zero =>
    intro i l p hd hl hi p0 p1
    refine EndsIn.step (fun k => by rw [spec_l91Part.l0]) ?_
    simp only [if_neg (show ¬ (i : Int) < n by omega)]
    exact EndsIn.now _ ⟨by show l.length ≤ 12; omega, by show p ≤ p; omega, by show p ≤ _; omega⟩
  | succ d ih =>
    intro i l p hd hl hi p0 p1
    refine EndsIn.step (fun k => by rw [spec_l91Part.l0]) ?_
    by_cases h : (i : Int) < n
    · simp only [if_pos h]
      refine EndsIn.bind (pick_ends hb p 256 p0 (by omega) (by omega)) fun q hq => ?_
      obtain ⟨q2, q3, q4, _⟩ := hq
      simp only [bindS]
      rw [q2]
      refine EndsIn.bind (pick_ends hb (p + 1) 4 (by omega) (by omega) (by omega)) fun s hs => ?_
      obtain ⟨s2, s3, s4, _⟩ := hs
      have s5 := s4 (by omega)
      rw [s2]
      simp only [if_pos s3, if_pos (show s.1 < (([1, 2, 3, q.1] : List Int).length : Int) by simpa using s5), if_pos (show l.length < 17592186044416 by omega), w64 (a := (i : Int) + 1) (by omega) (by omega)]
      have := ih (i + 1) (l ++ [rd [1, 2, 3, q.1] s.1]) (p + 1 + 1) (by omega) (by rw [List.length_append, hl]; rfl) (by omega) (by omega) (by omega)
      exact this.mono fun r hr => ⟨hr.1, by omega, by omega⟩
    · simp only [if_neg h]
      exact EndsIn.now _ ⟨by show l.length ≤ 12; omega, by show p ≤ p; omega, by show p ≤ _; omega⟩
theorem part_ends {b : List Int} (hb : CodeOk b) (p : Int) (h0 : 0 ≤ p) (h1 : p ≤ 800000000) : EndsIn (fun k => spec_l91Part.f k b p) (fun r => r.2.1.length ≤ 12 ∧ p ≤ r.2.2 ∧ r.2.2 ≤ p + 30) := by
  have st : ∀ (n q : Int), n ≤ 12 → p ≤ q → q ≤ p + 5 → EndsIn (fun k => spec_l91Part.j0 k [] n b q) (fun r => r.2.1.length ≤ 12 ∧ p ≤ r.2.2 ∧ r.2.2 ≤ p + 30) := by
    intro n q hn q0 q1
    refine EndsIn.step (fun k => by rw [spec_l91Part.j0]) ?_
    have := part_loop hb n hn 12 0 [] q (by omega) rfl (by omega) (by omega) (by omega)
    exact this.mono fun r hr => ⟨hr.1, by omega, by omega⟩
  unfold spec_l91Part.f
  refine EndsIn.bind (pick_ends hb p 4 h0 (by omega) (by omega)) fun q hq => ?_
  obtain ⟨q2, q3, q4, _⟩ := hq
  rw [q2]
  by_cases hz : q.1 = 0
  · simp only [if_pos hz]
    exact EndsIn.now _ ⟨by simp, by show p ≤ p + 1; omega, by show p + 1 ≤ p + 30; omega⟩
  · simp only [if_neg hz, bindS]
    refine EndsIn.bind (pick_ends hb (p + 1) 5 (by omega) (by omega) (by omega)) fun s hs => ?_
    obtain ⟨s2, s3, s4, _⟩ := hs
    have s5 := s4 (by omega)
    rw [s2]
    refine EndsIn.bind (pick_ends hb (p + 1 + 1) 12 (by omega) (by omega) (by omega)) fun u hu => ?_
    obtain ⟨u2, u3, u4, _⟩ := hu
    rw [u2]
    by_cases hu0 : u.1 = 0
    · simp only [if_pos hu0]
      exact st _ _ (by omega) (by omega) (by omega)
    · simp only [if_neg hu0]
      exact st _ _ (by omega) (by omega) (by omega)
end Go.Proofs.YteoicjlhkaljbaaDoor.Pu

namespace Go.Proofs.YteoicjlhkaljbaaDoor.Pu
open Go.RowKit Go.Proofs.YteoicjlhkaljbaaDoorW.PrintWords Go.Proofs.YteoicjlhkaljbaaDoorW.PrintLast Go.Proofs.YteoicjlhkaljbaaDoor.G
set_option linter.unusedVariables false
set_option linter.unusedSimpArgs false
theorem open_some (l0 : List Int) (hr : ∀ x ∈ l0, 0 ≤ x ∧ x ≤ 255) : ∃ b, spec_l6Open.f l0 = some (b, 0) ∧ CodeOk b := by
  unfold spec_l6Open.f
  by_cases h : (l0.length : Int) > 2000
  · rw [if_pos h, if_pos (by omega)]
    exact ⟨_, rfl, by rw [List.length_take]; omega, fun x hx => hr x (List.mem_of_mem_take hx)⟩
  · rw [if_neg h]
    exact ⟨_, rfl, by omega, hr⟩
end Go.Proofs.YteoicjlhkaljbaaDoor.Pu

namespace Go.Proofs.YteoicjlhkaljbaaDoor.Pu
open Go.RowKit Go.Proofs.YteoicjlhkaljbaaDoorW.PrintWords Go.Proofs.YteoicjlhkaljbaaDoorW.PrintLast Go.Proofs.YteoicjlhkaljbaaDoor.G
set_option linter.unusedVariables false
set_option linter.unusedSimpArgs false
theorem drawRec_ends {b : List Int} (hb : CodeOk b) (p : Int) (h0 : 0 ≤ p) (h1 : p ≤ 300000000) : EndsIn (fun k => spec_l91Record.f k b p) (fun r => r.2.2.2.1.length ≤ 13 ∧ r.2.2.2.2.2.1.length ≤ 13 ∧ p ≤ r.2.2.2.2.2.2 ∧ r.2.2.2.2.2.2 ≤ p + 1000) := by
  unfold spec_l91Record.f
  refine EndsIn.bind (pick_ends hb p 60 (by omega) (by omega) (by omega)) fun a ha => ?_
  refine EndsIn.bind (pick_ends hb a.2 250 (by omega) (by omega) (by omega)) fun c hc => ?_
  refine EndsIn.bind (pick_ends hb c.2 2 (by omega) (by omega) (by omega)) fun d hd => ?_
  refine EndsIn.bind (pick_ends hb d.2 100 (by omega) (by omega) (by omega)) fun e he => ?_
  refine EndsIn.bind (part_ends hb e.2 (by omega) (by omega)) fun f hf => ?_
  refine EndsIn.bind (part_ends hb f.2.2 (by omega) (by omega)) fun g hg => ?_
  refine EndsIn.bind (pick_ends hb g.2.2 40 (by omega) (by omega) (by omega)) fun m hm => ?_
  by_cases h0 : m.1 = 0
  · simp only [if_pos h0, bindS]
    refine EndsIn.bind (pick_ends hb m.2 3 (by omega) (by omega) (by omega)) fun n hn => ?_
    simp only [if_pos (show 0 ≤ n.1 by omega), if_pos (show n.1 < (([-1, 99999, 100000] : List Int).length : Int) by simp; omega)]
    exact EndsIn.now _ ⟨by dsimp only; omega, by dsimp only; omega, by dsimp only; omega, by dsimp only; omega⟩
  · simp only [if_neg h0]
    by_cases h1 : m.1 = 1
    · simp only [if_pos h1]
      exact EndsIn.now _ ⟨by dsimp only; omega, by dsimp only; omega, by dsimp only; omega, by dsimp only; omega⟩
    · simp only [if_neg h1]
      by_cases h2 : m.1 = 2
      · simp only [if_pos h2, if_pos (show g.2.1.length < 17592186044416 by omega)]
        exact EndsIn.now _ ⟨by dsimp only; omega, by simp; omega, by dsimp only; omega, by dsimp only; omega⟩
      · simp only [if_neg h2]
        exact EndsIn.now _ ⟨by dsimp only; omega, by dsimp only; omega, by dsimp only; omega, by dsimp only; omega⟩
end Go.Proofs.YteoicjlhkaljbaaDoor.Pu

namespace Go.Proofs.YteoicjlhkaljbaaDoor.Pu
open Go.RowKit Go.Proofs.YteoicjlhkaljbaaDoorW.PrintWords Go.Proofs.YteoicjlhkaljbaaDoorW.PrintLast Go.Proofs.YteoicjlhkaljbaaDoorW.PrintMore Go.Proofs.YteoicjlhkaljbaaDoor.G
set_option linter.unusedVariables false
set_option linter.unusedSimpArgs false
theorem selfInts (l : List Int) (hl : l.length ≤ 9223372036854775807) : Ev (fun k => laws_sameInts.f k l l) true := by
  unfold laws_sameInts.f
  simp only [if_true]
  have := ev_all l hl (fun k i => laws_sameInts.l0 k l l i) (fun k i => some true) (fun _ => true) true
    (fun k => by simp only [laws_sameInts.l0]; rw [if_neg (by omega)])
    (fun k i h => by simp only [laws_sameInts.l0]; rw [if_pos (by omega), if_pos (by omega), if_pos (by omega), if_pos trivial]; rfl)
    (fun i h => Ev.now _) l.length 0 (by omega) (by omega)
  rw [show ((l.drop 0).all fun _ => true) = true from List.all_eq_true.2 (fun _ _ => rfl)] at this
  simpa using this
theorem selfRecord (x : S25) (h : Lens x) : Ev (fun k => laws_sameRecord.f k x.f0 x.f1 x.f2 x.f3 x.f4 x.f5 x.f0 x.f1 x.f2 x.f3 x.f4 x.f5) true := by
  unfold laws_sameRecord.f
  simp only [if_true, beq_self_eq_true]
  refine Ev.bind (selfInts _ h.1) ?_
  simp only [if_true]
  exact Ev.bind (selfInts _ h.2) (Ev.now _)
end Go.Proofs.YteoicjlhkaljbaaDoor.Pu

namespace Go.Proofs.YteoicjlhkaljbaaDoor.Pure
open Go.RowKit Go.Proofs.YteoicjlhkaljbaaDoor.G Go.Proofs.YteoicjlhkaljbaaDoorW.PrintWords Go.Proofs.YteoicjlhkaljbaaDoorW.PrintLast Go.Proofs.YteoicjlhkaljbaaDoorW.PrintMore Go.Proofs.YteoicjlhkaljbaaDoor.Pu
set_option linter.unusedSimpArgs false
theorem FnRecordText : OFnRecordText.Pure := by
  intro l0 hl0 ho0
  refine EndsIn.rounds ?_
  unfold laws_FnRecordText.f
  have hr := fun x hx => u8_range (ho0 x hx)
  by_cases h : (l0.length : Int) > 1048576
  · simp only [if_pos h]
    exact EndsIn.now _ rfl
  · simp only [if_neg h]
    obtain ⟨c, hc, hok⟩ := open_some l0 hr
    unfold spec_DrawRecordText.f
    simp only [hc, bindS]
    refine EndsIn.bind (P := fun r => r.2.2.2.1.length ≤ 13 ∧ r.2.2.2.2.2.length ≤ 13) (EndsIn.bind (drawRec_ends hok 0 (by omega) (by omega)) fun r hr => EndsIn.now _ ⟨hr.1, hr.2.1⟩) fun q hq => ?_
    obtain ⟨q0, q1, q2, q3, q4, q5⟩ := q
    obtain ⟨hq3, hq5⟩ := hq
    dsimp only at hq3 hq5 ⊢
    have hL : Lens (⟨q0, q1, q2, q3, q4, q5⟩ : S25) := ⟨by dsimp only; omega, by dsimp only; omega⟩
    refine ⟨true, ?_, rfl⟩
    refine Ev.bind (RecordText_ev _ hL) (Ev.bind (sRecordText_ev _ hL) ?_)
    simp only [if_true]
    refine Ev.step (fun k => by rw [laws_FnRecordText.j0]) ?_
    have hsz := lineV_size (⟨q0, q1, q2, q3, q4, q5⟩ : S25)
    by_cases hv : recOk (⟨q0, q1, q2, q3, q4, q5⟩ : S25) = true
    · have el : (lineV (⟨q0, q1, q2, q3, q4, q5⟩ : S25)).toList = textOf ⟨q0, q1, q2, q3, q4, q5⟩ := by rw [lineV_list, if_pos hv]
      have hne : ((lineV (⟨q0, q1, q2, q3, q4, q5⟩ : S25)).toList == []) = false := by rw [el]; simpa using text_ne _
      simp only [hne, Bool.false_eq_true, if_false]
      have hrec := RecordOf_ev (lineV (⟨q0, q1, q2, q3, q4, q5⟩ : S25)) (by omega)
      rw [el, recV_some hv] at hrec
      refine Ev.bind hrec ?_
      simp only [tup, if_true]
      exact Ev.bind (selfRecord _ hL) (Ev.now _)
    · have el : (lineV (⟨q0, q1, q2, q3, q4, q5⟩ : S25)).toList = [] := by rw [lineV_list, if_neg hv]
      simp only [el, beq_self_eq_true, if_true]
      exact Ev.now _
end Go.Proofs.YteoicjlhkaljbaaDoor.Pure

namespace Go.Proofs.YteoicjlhkaljbaaDoor.fnRecordText
open Go.ChangeShapes Go.WideShapes Go.ChangeAt Go.RowKit Go.Proofs.YteoicjlhkaljbaaDoor.OFnRecordText Go.Proofs.YteoicjlhkaljbaaDoor.G Go.Joins
open Go.ChangeMaps (open_string shut_string)
set_option linter.unusedVariables false
theorem own : ownKnob Tryd.prog.godebug = none := by kernel_rfl
theorem laidOut : laidOutB Tryd.prog = true := by kernel_rfl
set_option maxRecDepth 100000 in
theorem lifted (os : Os) (started : os.Started) (H : Type) (enc : TypeId × Value → H) :
    ReturnsInHanded {} Tryd.checked os 7 .any (fun w args => (Rows.fnRecordTextSpec.pre enc Tryd.prog Tryd.f7 Rows.fnRecordTextRow.domain false w args ∧ laidMetH Tryd.prog Rows.fnRecordTextRow.laid w) ∧ sizedMet enc Tryd.prog Tryd.f7 (OpenSpec.ofChange Rows.fnRecordTextSpec) false w args) (Rows.fnRecordTextSpec.post enc Tryd.prog Tryd.f7 false true false false) := by
  refine returns_and_shaped (C := Tryd.checked) (X := fun w _ => laidMetH Tryd.prog Rows.fnRecordTextRow.laid w) (fun _ _ _ hh h => h.of_heap hh) own started (by kernel_rfl) Tryd.func7
    (ChangeSpec.witness_shaped (enc := enc) (C := Tryd.checked) (os := os) (X := fun w _ => laidMetH Tryd.prog Rows.fnRecordTextRow.laid w) false (World.laidAll Tryd.prog os Rows.fnRecordTextRow.laid) #[.slice none 0 0] 8 (World.laidAll_os _ _ _)
      (World.shaped_of_ZipB (by kernel_rfl) (by kernel_rfl)) (by kernel_rfl) (by kernel_rfl) (by kernel_rfl)
      (by rw [MakeChecks.laidMetH_plain _ _ _ (by kernel_rfl)]; exact laidMet_laidAll _ (by kernel_rfl) (by kernel_rfl))) ?_
  intro W base args ds gs before hval0 hW hcnd hsz0 hLL hsh _
  have hsz : (DataW.weightsEach Tryd.prog (Tryd.f7.params.toList ++ Rows.fnRecordTextSpec.plain.varTypes Tryd.prog) (ds ++ gs)).all (· ≤ reachBytes) = true := hsz0
  have hval : ∀ (j : Nat) t v, Tryd.f7.params[j]? = some t → args[j]? = some v → Value.okWide Tryd.prog W .any base t v := hval0
  have hW' := hW
  obtain ⟨p, q, hA0, hV, rfl, hfz, hnd⟩ := hW
  have hA : DataW.TrodAll enc Tryd.prog W 0 (fun _ => true) true Tryd.f7.params.toList args.toList ds p := hA0
  rw [Tryd.params7] at hA hval hsz
  obtain ⟨v0, vs0, d0, ds0, p0, q0, hargs, rfl, rfl, h0, r0⟩ := trodAll_cons hA
  obtain ⟨rfl, rfl, rfl⟩ := trodAll_nil r0
  obtain rfl : args = #[v0] := by cases args; simp_all
  obtain ⟨rfl, rfl⟩ := trodVars_none hV
  obtain ⟨a0, len0, cap0, rfl⟩ := okWide_slice Tryd.underlying22 (hval 0 22 v0 rfl rfl)
  have k0 := h0
  have lt0 : ∀ x ∈ p0, x.block < W.heap.size := by obtain ⟨m, hm⟩ := k0; exact DataW.trod_lt m _ _ _ hm
  obtain ⟨fuel0, hf0⟩ := h0
  obtain ⟨A0, c0, l0, hcs0, hlc0, hm0, hC0, ho0⟩ := Rd.opens_row Tryd.underlying22 (Rd.opens_int Tryd.underlying5 (by kernel_rfl)) hf0
  simp [Value.cells] at hcs0
  obtain ⟨rfl, rfl, rfl⟩ := hcs0
  have hL : laidMet Tryd.prog [("math/bits.deBruijn32tab", Rows.laid_math_bits_deBruijn32tab), ("math/bits.deBruijn64tab", Rows.laid_math_bits_deBruijn64tab), ("internal/strconv.uint64pow10", Rows.laid_internal_strconv_uint64pow10), ("unicode/utf8.acceptRanges", Rows.laid_unicode_utf8_acceptRanges), ("unicode/utf8.first", Rows.laid_unicode_utf8_first)] W := by
    have h_ := hLL
    rw [MakeChecks.laidMetH_plain _ _ _ (by kernel_rfl)] at h_
    exact h_
  have hT : Lib.TabIs Tryd.prog W "internal/strconv.uint64pow10" .u64 Lib.pow10Tab := pow10_laid hL.tail.tail
  have hE : ErrOk [0, 1] W := ⟨fun h_ => hT, fun h_ => maxLen_cell hsh⟩
  clear hL hLL hsh hT
  clear hA0 hval0 hsz0 hsz
  obtain ⟨k, h⟩ := Pure.FnRecordText l0 (Nat.le_trans hlc0 hm0) ho0
  refine (laws_FnRecordText.calls k _ _ l0 true W hE hC0 hlc0 h).mono fun e W' ⟨he, bel0⟩ => ?_
  subst he
  have bel : Below W.heap.size W W' := bel0
  exact ⟨_, rfl, _, _, _, [], _, [], hW', trodAll_mk1 (shut_bool Tryd.underlying4 _), (trodAll_cons_mk (Below.trod laidOut (by kernel_rfl) (of_decide_eq_true (by kernel_rfl)) k0 bel lt0) trodAll_mk0), rfl, bel.frame _, fun h => by cases h⟩
theorem over : Rows.fnRecordTextRow.holds Tryd.pinned (OpenSpec.ofChange Rows.fnRecordTextSpec) :=
  OpenClaim.holds_of_wide 7 Tryd.f7 rfl rfl rfl rfl rfl rfl rfl ⟨rfl, rfl, rfl, rfl, rfl⟩ rfl rfl rfl rfl rfl (by kernel_rfl) Tryd.func7 (by kernel_rfl)
    (of_decide_eq_true (by kernel_rfl)) (by unfold Func.isWrapper; first | (rw [if_pos (by decide +kernel)]; kernel_rfl) | (rw [if_neg (by decide +kernel)]; exact ⟨rfl, rfl⟩))
    (fun os started H enc _ => lifted os started H enc)
theorem proved : Rows.FnRecordTextSaid := over
#print axioms proved
end Go.Proofs.YteoicjlhkaljbaaDoor.fnRecordText
namespace Go.Proofs.YteoicjlhkaljbaaDoor
/-- The row, under a short name, for the claim. -/
theorem fnRecordText_holds : Rows.FnRecordTextSaid := fnRecordText.proved
theorem fnRecordText_card : Rows.FnRecordTextCardSaid :=
  Claim7.holds_tied_plain_at .later [] [.data, .data, .data, .data, .pinned] true (true, "ef6fe5f5f6daff1c50aa8af91370cf0377cad3eec5cad5a8540fa73015e2e4f7") false
    fnRecordText_holds (fun _ h => by cases h) (by kernel_rfl) (fun _ h => by cases h) fnRecordText_row_tie rfl ⟨rfl, rfl⟩ (by kernel_rfl) rfl
    (fun f fn hf hfn => by
      obtain rfl : f = 7 := Option.some.inj ((show Tryd.prog.funcNamed "loop.example/recordbatches/laws.FnRecordText" = some 7 by kernel_rfl).symm.trans hf) |>.symm
      obtain rfl : fn = Tryd.f7 := (Option.some.inj (Tryd.func7.symm.trans hfn)).symm
      exact ⟨by kernel_rfl, fun j t ht => by
        rw [Tryd.params7] at ht
        have h3 : t = 22 := by
          rcases j with _ | j
          · have h_ := ht.symm; simp at h_; simp [h_]
          · simp at ht
        rcases h3 with rfl
        · exact (show Tryd.prog.wantsStandIn 22 = false by kernel_rfl)⟩)
    (by kernel_rfl)
#print axioms fnRecordText_card
end Go.Proofs.YteoicjlhkaljbaaDoor

