/- A text of seat YteoicjlhkaljbaaDoor: what the law FnRecordOfBlank needs of this repo's texts (by pack.py). Not trusted: Lean checks it. -/
import Derived.Test.YteoicjlhkaljbaaDoorKFnRecordOfBlank6
namespace Go.Proofs.YteoicjlhkaljbaaDoor.G
open Go.RowKit Go.Proofs.YteoicjlhkaljbaaDoorW.PrintWords Go.Proofs.YteoicjlhkaljbaaDoorW.PrintLast Go.Proofs.YteoicjlhkaljbaaDoorW.PrintMore
attribute [local go_sem] max2_int min2_int max_two min_two max_three min_three max_four min_four   -- for this text's walks alone
set_option linter.unusedVariables false
set_option linter.unusedSimpArgs false

def spec_RecordOf.f (k : Nat) (a0 : ByteArray) : Option (Int × Int × Bool × List Int × Bool × List Int × Bool) := (spec_l41Cut.f k a0).bind fun t335 => (if (t335.length : Int) = 4 then (if 0 < (t335.length : Int) then ((spec_l41Number.f k (rdOf ByteArray.empty t335 0)).bind fun t339 => (if 1 < (t335.length : Int) then ((spec_l41Number.f k (rdOf ByteArray.empty t335 1)).bind fun t341 => (if 2 < (t335.length : Int) then ((spec_l41Bytes.f k (rdOf ByteArray.empty t335 2)).bind fun t344 => (if 3 < (t335.length : Int) then ((spec_l41Bytes.f k (rdOf ByteArray.empty t335 3)).bind fun t349 => ((spec_RecordText.f k t339 t341 ((rdOf ByteArray.empty t335 2).toList != ([45] : List UInt8)) t344 ((rdOf ByteArray.empty t335 3).toList != ([45] : List UInt8)) t349).bind fun t353 => (if t353.toList = a0.toList then (some (t339, t341, ((rdOf ByteArray.empty t335 2).toList != ([45] : List UInt8)), t344, ((rdOf ByteArray.empty t335 3).toList != ([45] : List UInt8)), t349, true)) else (some (0, 0, false, ([] : List Int), false, ([] : List Int), false))))) else (none))) else (none))) else (none))) else (none)) else (some (0, 0, false, ([] : List Int), false, ([] : List Int), false)))
def spec_RecordOf.T4 : Bool × List (List Nat × List Nat) := (true, [([], []), ([0], [0]), ([1], [1]), ([2], [2]), ([], []), ([4], [4]), ([5], [5]), ([6, 3], [6]), ([], []), ([8], [8]), ([9], [9]), ([10], [10]), ([], []), ([12], [12]), ([13], [13]), ([14, 7], [14]), ([], []), ([16], [16]), ([17], [17]), ([18], [18]), ([], []), ([20], [20]), ([21], [21]), ([22, 15], [22]), ([3, 7, 11, 15, 19, 23], [3, 7, 11, 15, 19, 23]), ([], []), ([25, 24, 23, 0, 1, 2, 3, 4, 5, 6, 7, 8, 9, 10, 11, 12, 13, 14, 15, 16, 17, 18, 19, 20, 21, 22, 23, 24, 25], [24, 25])])
def spec_RecordOf.B4 : List Nat := [0, 1, 3, 7, 0, 16, 48, 127, 0, 256, 768, 1792, 0, 4096, 12288, 28927, 0, 65536, 196608, 458752, 0, 1048576, 3145728, 7401727, 16777215, 0, 67108863]
theorem spec_RecordOf.tab4 : rtab .any (opsOf Tryd.f18 4) = spec_RecordOf.T4 := by kernel_rfl
theorem spec_RecordOf.bits4 : waitsOk spec_RecordOf.T4.2 spec_RecordOf.B4 = true := by kernel_rfl
set_option maxHeartbeats 8000000 in
set_option maxRecDepth 100000 in
theorem spec_RecordOf.calls (k : Nat) (a0 : ByteArray) (r1 : Int) (r2 : Int) (r3 : Bool) (r4 : List Int) (r5 : Bool) (r6 : List Int) (r7 : Bool) (w : World) (h : spec_RecordOf.f k a0 = some (r1, r2, r3, r4, r5, r6, r7)) :
  Calls Tryd.prog 18 #[.string a0] w fun e w' => ∃ v3_ v5_ : Value, e = .returned (.tuple #[.agg #[.int .i64 r1, .int .i64 r2, .bool r3, v3_, .bool r5, v5_], .bool r7]) ∧ Kd.R (Kd.int .i64) 3 w' w.heap.size (fun k_ => some k_ ≠ (v5_ : Value).ownBlock) v3_ r4 ∧ Kd.R (Kd.int .i64) 3 w' w.heap.size (fun k_ => some k_ ≠ (v3_ : Value).ownBlock) v5_ r6 ∧ Below w.heap.size w w' := by
 have hu25 := Tryd.underlying25
 have HB := Aside0.mk (Below.refl w.heap.size w)
 have H : ((spec_l41Cut.f k a0).bind fun t335 => (if (t335.length : Int) = 4 then (if 0 < (t335.length : Int) then ((spec_l41Number.f k (rdOf ByteArray.empty t335 0)).bind fun t339 => (if 1 < (t335.length : Int) then ((spec_l41Number.f k (rdOf ByteArray.empty t335 1)).bind fun t341 => (if 2 < (t335.length : Int) then ((spec_l41Bytes.f k (rdOf ByteArray.empty t335 2)).bind fun t344 => (if 3 < (t335.length : Int) then ((spec_l41Bytes.f k (rdOf ByteArray.empty t335 3)).bind fun t349 => ((spec_RecordText.f k t339 t341 ((rdOf ByteArray.empty t335 2).toList != ([45] : List UInt8)) t344 ((rdOf ByteArray.empty t335 3).toList != ([45] : List UInt8)) t349).bind fun t353 => (if t353.toList = a0.toList then (some (t339, t341, ((rdOf ByteArray.empty t335 2).toList != ([45] : List UInt8)), t344, ((rdOf ByteArray.empty t335 3).toList != ([45] : List UInt8)), t349, true)) else (some (0, 0, false, ([] : List Int), false, ([] : List Int), false))))) else (none))) else (none))) else (none))) else (none)) else (some (0, 0, false, ([] : List Int), false, ([] : List Int), false)))) = some (r1, r2, r3, r4, r5, r6, r7) := h
 clear h
 replace H := tbe H
 obtain ⟨t335, A2, H⟩ := H
 by_cases c3 : (t335.length : Int) = 4
 ·rw [if_pos c3] at H
  have c3b0 : ((t335.length : Int) == 4) = true := beq_iff_eq.mpr c3
  have c3b1 : ((t335.length : Int) != 4) = false := bne_eq_false_iff_eq.mpr c3
  clear c3
  by_cases c4 : 0 < (t335.length : Int)
  ·rw [if_pos c4] at H
   have c4b0 : decide (0 < (t335.length : Int)) = true := decide_eq_true c4
   have c4b1 : decide (0 < t335.length) = true := decide_eq_true (by omega)
   clear c4
   replace H := tbe H
   obtain ⟨t339, A5, H⟩ := H
   by_cases c6 : 1 < (t335.length : Int)
   ·rw [if_pos c6] at H
    have c6b0 : decide (1 < (t335.length : Int)) = true := decide_eq_true c6
    have c6b1 : decide (1 < t335.length) = true := decide_eq_true (by omega)
    clear c6
    replace H := tbe H
    obtain ⟨t341, A7, H⟩ := H
    by_cases c8 : 2 < (t335.length : Int)
    ·rw [if_pos c8] at H
     have c8b0 : decide (2 < (t335.length : Int)) = true := decide_eq_true c8
     have c8b1 : decide (2 < t335.length) = true := decide_eq_true (by omega)
     clear c8
     replace H := tbe H
     obtain ⟨t344, A9, H⟩ := H
     by_cases c10 : 3 < (t335.length : Int)
     ·rw [if_pos c10] at H
      have c10b0 : decide (3 < (t335.length : Int)) = true := decide_eq_true c10
      have c10b1 : decide (3 < t335.length) = true := decide_eq_true (by omega)
      clear c10
      replace H := tbe H
      obtain ⟨t349, A11, H⟩ := H
      replace H := tbe H
      obtain ⟨t353, A12, H⟩ := H
      by_cases c13 : t353.toList = a0.toList
      ·rw [if_pos c13] at H
       have c13b0 : (t353.toList == a0.toList) = true := beq_iff_eq.mpr c13
       have c13b1 : (t353.toList != a0.toList) = false := bne_eq_false_iff_eq.mpr c13
       clear c13
       simp only [Option.some.injEq, Prod.mk.injEq] at H
       obtain ⟨rfl, rfl, rfl, rfl, rfl, rfl, rfl⟩ := H
       go_enter Tryd.func18, Tryd.ntmps18
       try go_wp2_with (first | ((with_reducible refine gate_dst (N := 2) rfl ?_); refine box_event ?hg (N := 2) ?hd (cs := #[.int .i64 0, .int .i64 0, .bool false, .slice none 0 0, .bool false, .slice none 0 0]) (t := 25) ?hr ?_; (case hd => rfl); (case hg => rfl); (case hr => first | (go_simp; done) | (go_simp; rfl)); intro gb334 hg w14 hbox hb; have BK334 := Aside0.mk (hbox); have GW334 := tge HB hg; have GE334 := tge HB hg; replace HB := tBs HB hb; clear hb hbox hg) | ((with_reducible refine gate_callee (f := 42) rfl ?_); refine goesL_ (some 7) rfl rfl Tryd.func42 (by kernel_rfl) rfl #[.string a0] rfl tq ?_; (with_reducible refine (spec_l41Cut.calls k a0 t335 _ A2.out).mono ?_); rintro e w15 ⟨v336, rfl, ho0, hb⟩; have u_v336 := tsv Tryd.prog v336 ho0; refine ⟨_, rfl, ?_⟩; have HO337 := tRl ho0 HB; replace BK334 := tBb BK334 hb; replace HB := tBs HB hb; (try clear hb); (try clear hb2); (try clear hk); (try clear hi); (try clear ho0); obtain ⟨Ao16, co16, eo16⟩ := Kd.R_slice HO337.out; subst eo16))
       replace HO337 := Aside0.mk (Kd.R_drew HO337.out)
       replace BK334 := Aside0.mk (blk_drew BK334.out)
       replace HB := Aside0.mk (below_drew1 HB.out)
       have p338 : 0 ≤ (0 : Int) := (by omega)
       have q338 : 0 < (t335.length : Int) := td
       obtain ⟨ad338, e338, hx338_0⟩ := Kd.at_string (Kd.R_reads' HO337.out).2.2 0 p338 q338
       cases e338
       have qi338 : (0 < t335.length) = True := eq_true (by omega)
       (try rw [show ((0 : Int)).toNat = 0 from rfl] at hx338_0)
       (try rw [Addr.add_zero'] at hx338_0)
       replace p338 := eq_true p338
       replace q338 := eq_true q338
       have p340 : 0 ≤ (1 : Int) := (by omega)
       have q340 : 1 < (t335.length : Int) := td
       obtain ⟨ad340, e340, hx340_0⟩ := Kd.at_string (Kd.R_reads' HO337.out).2.2 1 p340 q340
       obtain rfl : ad338 = ad340 := (by injection e340)
       (try simp only [show (1 : Int).toNat = 1 from rfl, Nat.reduceMul, Nat.reduceEqDiff, Go.Addr.add, ↓reduceIte] at hx340_0)
       have qi340 : (1 < t335.length) = True := eq_true (by omega)
       (try rw [show ((1 : Int)).toNat = 1 from rfl] at hx340_0)
       replace p340 := eq_true p340
       replace q340 := eq_true q340
       have p342 : 0 ≤ (2 : Int) := (by omega)
       have q342 : 2 < (t335.length : Int) := td
       obtain ⟨ad342, e342, hx342_0⟩ := Kd.at_string (Kd.R_reads' HO337.out).2.2 2 p342 q342
       obtain rfl : ad338 = ad342 := (by injection e342)
       (try simp only [show (2 : Int).toNat = 2 from rfl, Nat.reduceMul, Nat.reduceEqDiff, Go.Addr.add, ↓reduceIte] at hx342_0)
       have qi342 : (2 < t335.length) = True := eq_true (by omega)
       (try rw [show ((2 : Int)).toNat = 2 from rfl] at hx342_0)
       replace p342 := eq_true p342
       replace q342 := eq_true q342
       have p343 : 0 ≤ (2 : Int) := (by omega)
       have q343 : 2 < (t335.length : Int) := td
       obtain ⟨ad343, e343, hx343_0⟩ := Kd.at_string (Kd.R_reads' HO337.out).2.2 2 p343 q343
       obtain rfl : ad338 = ad343 := (by injection e343)
       (try simp only [show (2 : Int).toNat = 2 from rfl, Nat.reduceMul, Nat.reduceEqDiff, Go.Addr.add, ↓reduceIte] at hx343_0)
       have qi343 : (2 < t335.length) = True := eq_true (by omega)
       (try rw [show ((2 : Int)).toNat = 2 from rfl] at hx343_0)
       replace p343 := eq_true p343
       replace q343 := eq_true q343
       have p347 : 0 ≤ (3 : Int) := (by omega)
       have q347 : 3 < (t335.length : Int) := td
       obtain ⟨ad347, e347, hx347_0⟩ := Kd.at_string (Kd.R_reads' HO337.out).2.2 3 p347 q347
       obtain rfl : ad338 = ad347 := (by injection e347)
       (try simp only [show (3 : Int).toNat = 3 from rfl, Nat.reduceMul, Nat.reduceEqDiff, Go.Addr.add, ↓reduceIte] at hx347_0)
       have qi347 : (3 < t335.length) = True := eq_true (by omega)
       (try rw [show ((3 : Int)).toNat = 3 from rfl] at hx347_0)
       replace p347 := eq_true p347
       replace q347 := eq_true q347
       have p348 : 0 ≤ (3 : Int) := (by omega)
       have q348 : 3 < (t335.length : Int) := td
       obtain ⟨ad348, e348, hx348_0⟩ := Kd.at_string (Kd.R_reads' HO337.out).2.2 3 p348 q348
       obtain rfl : ad338 = ad348 := (by injection e348)
       (try simp only [show (3 : Int).toNat = 3 from rfl, Nat.reduceMul, Nat.reduceEqDiff, Go.Addr.add, ↓reduceIte] at hx348_0)
       have qi348 : (3 < t335.length) = True := eq_true (by omega)
       (try rw [show ((3 : Int)).toNat = 3 from rfl] at hx348_0)
       replace p348 := eq_true p348
       replace q348 := eq_true q348
       refine start_ (n := 27) (S := fun w' => w'.cell? ad338 = some (.string (rdOf ByteArray.empty t335 0)) ∧ w'.cell? ⟨ad338.block, ad338.off + 1, none⟩ = some (.string (rdOf ByteArray.empty t335 1)) ∧ w'.cell? ⟨ad338.block, ad338.off + 2, none⟩ = some (.string (rdOf ByteArray.empty t335 2)) ∧ w'.cell? ⟨ad338.block, ad338.off + 2, none⟩ = some (.string (rdOf ByteArray.empty t335 2)) ∧ w'.cell? ⟨ad338.block, ad338.off + 3, none⟩ = some (.string (rdOf ByteArray.empty t335 3)) ∧ w'.cell? ⟨ad338.block, ad338.off + 3, none⟩ = some (.string (rdOf ByteArray.empty t335 3))) (ds := []) #[false, false, false, false, false, false, false, false, false, false, false, false, false, false, false, false, false, false, false, false, false, false, false, false, false, false, false] (by kernel_rfl) rfl rfl ⟨hx338_0, hx340_0, hx342_0, hx343_0, hx347_0, hx348_0⟩ (fun hHeld => ?_); refine with_tabW spec_RecordOf.tab4 spec_RecordOf.bits4 (fun HT_ HW_ => ?_)
       generalize w15.drew = w17 at HO337 BK334 HB hx338_0 hx340_0 hx342_0 hx343_0 hx347_0 hx348_0 hHeld ⊢
       refine tpu 0 (some 12) #[true, false, false, false, false, false, false, false, false, false, false, false, false, false, false, false, false, false, false, false, false, false, false, false, false, false, false] ?_
       refine tpu 1 (some 13) #[true, true, false, false, false, false, false, false, false, false, false, false, false, false, false, false, false, false, false, false, false, false, false, false, false, false, false] ?_
       refine tpu 4 (some 16) #[true, true, false, false, true, false, false, false, false, false, false, false, false, false, false, false, false, false, false, false, false, false, false, false, false, false, false] ?_
       refine tpu 5 (some 17) #[true, true, false, false, true, true, false, false, false, false, false, false, false, false, false, false, false, false, false, false, false, false, false, false, false, false, false] ?_
       refine tpu 8 (some 20) #[true, true, false, false, true, true, false, false, true, false, false, false, false, false, false, false, false, false, false, false, false, false, false, false, false, false, false] ?_
       refine tpu 9 (some 21) #[true, true, false, false, true, true, false, false, true, true, false, false, false, false, false, false, false, false, false, false, false, false, false, false, false, false, false] ?_
       refine tpu 12 (some 24) #[true, true, false, false, true, true, false, false, true, true, false, false, true, false, false, false, false, false, false, false, false, false, false, false, false, false, false] ?_
       refine tpu 13 (some 25) #[true, true, false, false, true, true, false, false, true, true, false, false, true, true, false, false, false, false, false, false, false, false, false, false, false, false, false] ?_
       refine tpu 16 (some 28) #[true, true, false, false, true, true, false, false, true, true, false, false, true, true, false, false, true, false, false, false, false, false, false, false, false, false, false] ?_
       refine tpu 17 (some 29) #[true, true, false, false, true, true, false, false, true, true, false, false, true, true, false, false, true, true, false, false, false, false, false, false, false, false, false] ?_
       refine tpu 20 (some 32) #[true, true, false, false, true, true, false, false, true, true, false, false, true, true, false, false, true, true, false, false, true, false, false, false, false, false, false] ?_
       refine tpu 21 (some 33) #[true, true, false, false, true, true, false, false, true, true, false, false, true, true, false, false, true, true, false, false, true, true, false, false, false, false, false] ?_
       refine tta 2 (some 14) #[true, true, true, false, true, true, false, false, true, true, false, false, true, true, false, false, true, true, false, false, true, true, false, false, false, false, false] hHeld ?_ (hy := by rintro w' ⟨s0, s1, s2, s3, s4, s5⟩; go_simp; with_reducible rfl)
       refine tta 6 (some 18) #[true, true, true, false, true, true, true, false, true, true, false, false, true, true, false, false, true, true, false, false, true, true, false, false, false, false, false] hHeld ?_ (hy := by rintro w' ⟨s0, s1, s2, s3, s4, s5⟩; go_simp; with_reducible rfl)
       refine tta 10 (some 22) #[true, true, true, false, true, true, true, false, true, true, true, false, true, true, false, false, true, true, false, false, true, true, false, false, false, false, false] hHeld ?_ (hy := by rintro w' ⟨s0, s1, s2, s3, s4, s5⟩; go_simp; with_reducible rfl)
       refine tpu 11 (some 23) #[true, true, true, false, true, true, true, false, true, true, true, true, true, true, false, false, true, true, false, false, true, true, false, false, false, false, false] ?_
       refine tta 14 (some 26) #[true, true, true, false, true, true, true, false, true, true, true, true, true, true, true, false, true, true, false, false, true, true, false, false, false, false, false] hHeld ?_ (hy := by rintro w' ⟨s0, s1, s2, s3, s4, s5⟩; go_simp; with_reducible rfl)
       refine tta 18 (some 30) #[true, true, true, false, true, true, true, false, true, true, true, true, true, true, true, false, true, true, true, false, true, true, false, false, false, false, false] hHeld ?_ (hy := by rintro w' ⟨s0, s1, s2, s3, s4, s5⟩; go_simp; with_reducible rfl)
       refine tpu 19 (some 31) #[true, true, true, false, true, true, true, false, true, true, true, true, true, true, true, false, true, true, true, true, true, true, false, false, false, false, false] ?_
       refine tta 22 (some 34) #[true, true, true, false, true, true, true, false, true, true, true, true, true, true, true, false, true, true, true, true, true, true, true, false, false, false, false] hHeld ?_ (hy := by rintro w' ⟨s0, s1, s2, s3, s4, s5⟩; go_simp; with_reducible rfl)
       refine join_ (σ := Value × Value × Nat) 1 #[true, true, true, true, true, true, true, true, true, true, true, true, true, true, true, true, true, true, true, true, true, true, true, true, true, true, false] (fun s_ => [(15, .int .i64 t339), (19, .int .i64 t341), (27, s_.1), (35, s_.2.1), (5, .pointer (some ⟨s_.2.2, 0, none⟩)), (36, .agg #[.int .i64 t339, .int .i64 t341, .bool ((rdOf ByteArray.empty t335 2).toList != ([45] : List UInt8)), s_.1, .bool ((rdOf ByteArray.empty t335 3).toList != ([45] : List UInt8)), s_.2.1])]) (fun s_ w' => (w'.cell? ad338 = some (.string (rdOf ByteArray.empty t335 0)) ∧ w'.cell? ⟨ad338.block, ad338.off + 1, none⟩ = some (.string (rdOf ByteArray.empty t335 1)) ∧ w'.cell? ⟨ad338.block, ad338.off + 2, none⟩ = some (.string (rdOf ByteArray.empty t335 2)) ∧ w'.cell? ⟨ad338.block, ad338.off + 2, none⟩ = some (.string (rdOf ByteArray.empty t335 2)) ∧ w'.cell? ⟨ad338.block, ad338.off + 3, none⟩ = some (.string (rdOf ByteArray.empty t335 3)) ∧ w'.cell? ⟨ad338.block, ad338.off + 3, none⟩ = some (.string (rdOf ByteArray.empty t335 3))) ∧ (Kd.R Kd.string 9 w' w.heap.size (fun _ => True) (.slice (some ad338) t335.length co16) t335) ∧ (Kd.R (Kd.int .i64) 3 w' w.heap.size (fun k_ => some k_ ≠ (s_.2.1 : Value).ownBlock) s_.1 t344) ∧ (Kd.R (Kd.int .i64) 3 w' w.heap.size (fun k_ => some k_ ≠ (s_.1 : Value).ownBlock) s_.2.1 t349) ∧ (w'.heap[gb334]? = some (.cells #[.int .i64 0, .int .i64 0, .bool false, .slice none 0 0, .bool false, .slice none 0 0] 25 (0, 0))) ∧ (w'.heap[s_.2.2]? = some (.cells #[.int .i64 0, .int .i64 0, .bool false, .slice none 0 0, .bool false, .slice none 0 0] 25 (0, 0))) ∧ (w.heap.size ≤ s_.2.2) ∧ (w.heap.size ≤ s_.2.2) ∧ (gb334 ≠ s_.2.2) ∧ (s_.2.2 ≠ gb334) ∧ (Below w.heap.size w w')) ?_ ?_
       rotate_left
       ·intro hJ3_7_15_23_25
        refine join_ (σ := Value × Value) 2 #[true, true, true, true, true, true, true, true, true, true, true, true, true, true, true, true, true, true, true, true, true, true, true, true, true, false, false] (fun s_ => [(15, .int .i64 t339), (19, .int .i64 t341), (27, s_.1), (35, s_.2), (36, .agg #[.int .i64 t339, .int .i64 t341, .bool ((rdOf ByteArray.empty t335 2).toList != ([45] : List UInt8)), s_.1, .bool ((rdOf ByteArray.empty t335 3).toList != ([45] : List UInt8)), s_.2])]) (fun s_ w' => (w'.cell? ad338 = some (.string (rdOf ByteArray.empty t335 0)) ∧ w'.cell? ⟨ad338.block, ad338.off + 1, none⟩ = some (.string (rdOf ByteArray.empty t335 1)) ∧ w'.cell? ⟨ad338.block, ad338.off + 2, none⟩ = some (.string (rdOf ByteArray.empty t335 2)) ∧ w'.cell? ⟨ad338.block, ad338.off + 2, none⟩ = some (.string (rdOf ByteArray.empty t335 2)) ∧ w'.cell? ⟨ad338.block, ad338.off + 3, none⟩ = some (.string (rdOf ByteArray.empty t335 3)) ∧ w'.cell? ⟨ad338.block, ad338.off + 3, none⟩ = some (.string (rdOf ByteArray.empty t335 3))) ∧ (Kd.R Kd.string 9 w' w.heap.size (fun _ => True) (.slice (some ad338) t335.length co16) t335) ∧ (Kd.R (Kd.int .i64) 3 w' w.heap.size (fun k_ => some k_ ≠ (s_.2 : Value).ownBlock) s_.1 t344) ∧ (Kd.R (Kd.int .i64) 3 w' w.heap.size (fun k_ => some k_ ≠ (s_.1 : Value).ownBlock) s_.2 t349) ∧ (w'.heap[gb334]? = some (.cells #[.int .i64 0, .int .i64 0, .bool false, .slice none 0 0, .bool false, .slice none 0 0] 25 (0, 0))) ∧ (Below w.heap.size w w')) ?_ ?_
        rotate_left
        ·intro hJ3_7_15_23
         refine join_ (σ := Value × Nat) 3 #[true, true, true, true, true, true, true, true, true, true, true, true, true, true, true, true, true, true, true, true, true, true, true, false, false, true, false] (fun s_ => [(15, .int .i64 t339), (19, .int .i64 t341), (27, s_.1), (5, .pointer (some ⟨s_.2, 0, none⟩))]) (fun s_ w' => (w'.cell? ad338 = some (.string (rdOf ByteArray.empty t335 0)) ∧ w'.cell? ⟨ad338.block, ad338.off + 1, none⟩ = some (.string (rdOf ByteArray.empty t335 1)) ∧ w'.cell? ⟨ad338.block, ad338.off + 2, none⟩ = some (.string (rdOf ByteArray.empty t335 2)) ∧ w'.cell? ⟨ad338.block, ad338.off + 2, none⟩ = some (.string (rdOf ByteArray.empty t335 2)) ∧ w'.cell? ⟨ad338.block, ad338.off + 3, none⟩ = some (.string (rdOf ByteArray.empty t335 3)) ∧ w'.cell? ⟨ad338.block, ad338.off + 3, none⟩ = some (.string (rdOf ByteArray.empty t335 3))) ∧ (Kd.R Kd.string 9 w' w.heap.size (fun _ => True) (.slice (some ad338) t335.length co16) t335) ∧ (Kd.R (Kd.int .i64) 3 w' w.heap.size (fun _ => True) s_.1 t344) ∧ (w'.heap[gb334]? = some (.cells #[.int .i64 0, .int .i64 0, .bool false, .slice none 0 0, .bool false, .slice none 0 0] 25 (0, 0))) ∧ (w'.heap[s_.2]? = some (.cells #[.int .i64 0, .int .i64 0, .bool false, .slice none 0 0, .bool false, .slice none 0 0] 25 (0, 0))) ∧ (w.heap.size ≤ s_.2) ∧ (w.heap.size ≤ s_.2) ∧ (gb334 ≠ s_.2) ∧ (s_.2 ≠ gb334) ∧ (Below w.heap.size w w')) ?_ ?_
         rotate_left
         ·intro hJ3_7_15_25
          refine join_ (σ := Value) 4 #[true, true, true, true, true, true, true, true, true, true, true, true, true, true, true, true, true, true, true, true, true, true, true, false, false, false, false] (fun s_ => [(15, .int .i64 t339), (19, .int .i64 t341), (27, s_)]) (fun s_ w' => (w'.cell? ad338 = some (.string (rdOf ByteArray.empty t335 0)) ∧ w'.cell? ⟨ad338.block, ad338.off + 1, none⟩ = some (.string (rdOf ByteArray.empty t335 1)) ∧ w'.cell? ⟨ad338.block, ad338.off + 2, none⟩ = some (.string (rdOf ByteArray.empty t335 2)) ∧ w'.cell? ⟨ad338.block, ad338.off + 2, none⟩ = some (.string (rdOf ByteArray.empty t335 2)) ∧ w'.cell? ⟨ad338.block, ad338.off + 3, none⟩ = some (.string (rdOf ByteArray.empty t335 3)) ∧ w'.cell? ⟨ad338.block, ad338.off + 3, none⟩ = some (.string (rdOf ByteArray.empty t335 3))) ∧ (Kd.R Kd.string 9 w' w.heap.size (fun _ => True) (.slice (some ad338) t335.length co16) t335) ∧ (Kd.R (Kd.int .i64) 3 w' w.heap.size (fun _ => True) s_ t344) ∧ (w'.heap[gb334]? = some (.cells #[.int .i64 0, .int .i64 0, .bool false, .slice none 0 0, .bool false, .slice none 0 0] 25 (0, 0))) ∧ (Below w.heap.size w w')) ?_ ?_
          rotate_left
          ·intro hJ3_7_15
           refine join_ (σ := Nat) 4 #[true, true, true, true, true, true, true, true, true, true, true, true, true, true, true, false, true, true, true, true, true, true, true, false, false, true, false] (fun s_ => [(15, .int .i64 t339), (19, .int .i64 t341), (5, .pointer (some ⟨s_, 0, none⟩))]) (fun s_ w' => (w'.cell? ad338 = some (.string (rdOf ByteArray.empty t335 0)) ∧ w'.cell? ⟨ad338.block, ad338.off + 1, none⟩ = some (.string (rdOf ByteArray.empty t335 1)) ∧ w'.cell? ⟨ad338.block, ad338.off + 2, none⟩ = some (.string (rdOf ByteArray.empty t335 2)) ∧ w'.cell? ⟨ad338.block, ad338.off + 2, none⟩ = some (.string (rdOf ByteArray.empty t335 2)) ∧ w'.cell? ⟨ad338.block, ad338.off + 3, none⟩ = some (.string (rdOf ByteArray.empty t335 3)) ∧ w'.cell? ⟨ad338.block, ad338.off + 3, none⟩ = some (.string (rdOf ByteArray.empty t335 3))) ∧ (Kd.R Kd.string 9 w' w.heap.size (fun _ => True) (.slice (some ad338) t335.length co16) t335) ∧ (w'.heap[gb334]? = some (.cells #[.int .i64 0, .int .i64 0, .bool false, .slice none 0 0, .bool false, .slice none 0 0] 25 (0, 0))) ∧ (w'.heap[s_]? = some (.cells #[.int .i64 0, .int .i64 0, .bool false, .slice none 0 0, .bool false, .slice none 0 0] 25 (0, 0))) ∧ (w.heap.size ≤ s_) ∧ (w.heap.size ≤ s_) ∧ (gb334 ≠ s_) ∧ (s_ ≠ gb334) ∧ (Below w.heap.size w w')) ?_ ?_
           rotate_left
           ·intro hJ3_7_25
            refine join_ (σ := Unit) 5 #[true, true, true, true, true, true, true, true, true, true, true, true, true, true, true, false, true, true, true, true, true, true, true, false, false, false, false] (fun s_ => [(15, .int .i64 t339), (19, .int .i64 t341)]) (fun s_ w' => (w'.cell? ad338 = some (.string (rdOf ByteArray.empty t335 0)) ∧ w'.cell? ⟨ad338.block, ad338.off + 1, none⟩ = some (.string (rdOf ByteArray.empty t335 1)) ∧ w'.cell? ⟨ad338.block, ad338.off + 2, none⟩ = some (.string (rdOf ByteArray.empty t335 2)) ∧ w'.cell? ⟨ad338.block, ad338.off + 2, none⟩ = some (.string (rdOf ByteArray.empty t335 2)) ∧ w'.cell? ⟨ad338.block, ad338.off + 3, none⟩ = some (.string (rdOf ByteArray.empty t335 3)) ∧ w'.cell? ⟨ad338.block, ad338.off + 3, none⟩ = some (.string (rdOf ByteArray.empty t335 3))) ∧ (Kd.R Kd.string 9 w' w.heap.size (fun _ => True) (.slice (some ad338) t335.length co16) t335) ∧ (w'.heap[gb334]? = some (.cells #[.int .i64 0, .int .i64 0, .bool false, .slice none 0 0, .bool false, .slice none 0 0] 25 (0, 0))) ∧ (Below w.heap.size w w')) ?_ ?_
            rotate_left
            ·intro hJ3_7
             refine join_ (σ := Nat) 5 #[true, true, true, true, true, true, true, false, true, true, true, true, true, true, true, false, true, true, true, true, true, true, true, false, false, true, false] (fun s_ => [(15, .int .i64 t339), (5, .pointer (some ⟨s_, 0, none⟩))]) (fun s_ w' => (w'.cell? ad338 = some (.string (rdOf ByteArray.empty t335 0)) ∧ w'.cell? ⟨ad338.block, ad338.off + 1, none⟩ = some (.string (rdOf ByteArray.empty t335 1)) ∧ w'.cell? ⟨ad338.block, ad338.off + 2, none⟩ = some (.string (rdOf ByteArray.empty t335 2)) ∧ w'.cell? ⟨ad338.block, ad338.off + 2, none⟩ = some (.string (rdOf ByteArray.empty t335 2)) ∧ w'.cell? ⟨ad338.block, ad338.off + 3, none⟩ = some (.string (rdOf ByteArray.empty t335 3)) ∧ w'.cell? ⟨ad338.block, ad338.off + 3, none⟩ = some (.string (rdOf ByteArray.empty t335 3))) ∧ (Kd.R Kd.string 9 w' w.heap.size (fun _ => True) (.slice (some ad338) t335.length co16) t335) ∧ (w'.heap[gb334]? = some (.cells #[.int .i64 0, .int .i64 0, .bool false, .slice none 0 0, .bool false, .slice none 0 0] 25 (0, 0))) ∧ (w'.heap[s_]? = some (.cells #[.int .i64 0, .int .i64 0, .bool false, .slice none 0 0, .bool false, .slice none 0 0] 25 (0, 0))) ∧ (w.heap.size ≤ s_) ∧ (w.heap.size ≤ s_) ∧ (gb334 ≠ s_) ∧ (s_ ≠ gb334) ∧ (Below w.heap.size w w')) ?_ ?_
             rotate_left
             ·intro hJ3_25
              refine join_ (σ := Unit) 6 #[true, true, true, true, true, true, true, false, true, true, true, true, true, true, true, false, true, true, true, true, true, true, true, false, false, false, false] (fun s_ => [(15, .int .i64 t339)]) (fun s_ w' => (w'.cell? ad338 = some (.string (rdOf ByteArray.empty t335 0)) ∧ w'.cell? ⟨ad338.block, ad338.off + 1, none⟩ = some (.string (rdOf ByteArray.empty t335 1)) ∧ w'.cell? ⟨ad338.block, ad338.off + 2, none⟩ = some (.string (rdOf ByteArray.empty t335 2)) ∧ w'.cell? ⟨ad338.block, ad338.off + 2, none⟩ = some (.string (rdOf ByteArray.empty t335 2)) ∧ w'.cell? ⟨ad338.block, ad338.off + 3, none⟩ = some (.string (rdOf ByteArray.empty t335 3)) ∧ w'.cell? ⟨ad338.block, ad338.off + 3, none⟩ = some (.string (rdOf ByteArray.empty t335 3))) ∧ (Kd.R Kd.string 9 w' w.heap.size (fun _ => True) (.slice (some ad338) t335.length co16) t335) ∧ (w'.heap[gb334]? = some (.cells #[.int .i64 0, .int .i64 0, .bool false, .slice none 0 0, .bool false, .slice none 0 0] 25 (0, 0))) ∧ (Below w.heap.size w w')) ?_ ?_
              rotate_left
              ·intro hJ3
               refine join_ (σ := Nat) 6 #[true, true, true, false, true, true, true, false, true, true, true, true, true, true, true, false, true, true, true, true, true, true, true, false, false, true, false] (fun s_ => [(5, .pointer (some ⟨s_, 0, none⟩))]) (fun s_ w' => (w'.cell? ad338 = some (.string (rdOf ByteArray.empty t335 0)) ∧ w'.cell? ⟨ad338.block, ad338.off + 1, none⟩ = some (.string (rdOf ByteArray.empty t335 1)) ∧ w'.cell? ⟨ad338.block, ad338.off + 2, none⟩ = some (.string (rdOf ByteArray.empty t335 2)) ∧ w'.cell? ⟨ad338.block, ad338.off + 2, none⟩ = some (.string (rdOf ByteArray.empty t335 2)) ∧ w'.cell? ⟨ad338.block, ad338.off + 3, none⟩ = some (.string (rdOf ByteArray.empty t335 3)) ∧ w'.cell? ⟨ad338.block, ad338.off + 3, none⟩ = some (.string (rdOf ByteArray.empty t335 3))) ∧ (Kd.R Kd.string 9 w' w.heap.size (fun _ => True) (.slice (some ad338) t335.length co16) t335) ∧ (w'.heap[gb334]? = some (.cells #[.int .i64 0, .int .i64 0, .bool false, .slice none 0 0, .bool false, .slice none 0 0] 25 (0, 0))) ∧ (w'.heap[s_]? = some (.cells #[.int .i64 0, .int .i64 0, .bool false, .slice none 0 0, .bool false, .slice none 0 0] 25 (0, 0))) ∧ (w.heap.size ≤ s_) ∧ (w.heap.size ≤ s_) ∧ (gb334 ≠ s_) ∧ (s_ ≠ gb334) ∧ (Below w.heap.size w w')) ?_ ?_
               rotate_left
               ·intro hJ25
                refine two_ (i := 3) (j := 25) (Ni := some 15) (Nj := some 5) #[true, true, true, true, true, true, true, false, true, true, true, true, true, true, true, false, true, true, true, true, true, true, true, false, false, false, false] #[true, true, true, false, true, true, true, false, true, true, true, true, true, true, true, false, true, true, true, true, true, true, true, false, false, true, false] rfl rfl rfl rfl (two_of HT_.out (by kernel_rfl)) (by decide) (by decide) (fun K hK => ?_) (fun K hK => ?_)
                ·skip
                 refine goes_ Tryd.func43 (by kernel_rfl) rfl #[.string (rdOf ByteArray.empty t335 0)] (by rfl) rfl rfl tq ?_
                 with_reducible refine (spec_l41Number.calls k (rdOf ByteArray.empty t335 0) t339 _ A5.out).mono ?_
                 rintro e w' ⟨rfl, ⟨nd, rfl⟩⟩
                 refine ⟨_, rfl, ?_⟩
                 refine hK.out _ _ ⟨hHeld.1, hHeld.2.1, hHeld.2.2.1, hHeld.2.2.2.1, hHeld.2.2.2.2.1, hHeld.2.2.2.2.2⟩ (fun hHeld => ?_)
                 clear hK K
                 refine tnm (some 15) ?_
                 exact tnx (hJ3 () _ ⟨hHeld, (tR HO337.out), (tH BK334.out), zb⟩)
                ·skip
                 refine box_step ?hg (N := 5) ?hd (cs := #[.int .i64 0, .int .i64 0, .bool false, .slice none 0 0, .bool false, .slice none 0 0]) (t := 25) ?hr ?_; (case hd => rfl); (case hg => rfl); (case hr => first | (go_simp; done) | (go_simp; rfl))
                 intro gb352 hg w18 hbox hb
                 have HS0_ := tcb hb hHeld.1
                 have HS1_ := tcb hb hHeld.2.1
                 have HS2_ := tcb hb hHeld.2.2.1
                 have HS3_ := tcb hb hHeld.2.2.2.1
                 have HS4_ := tcb hb hHeld.2.2.2.2.1
                 have HS5_ := tcb hb hHeld.2.2.2.2.2
                 replace HO337 := tRb HO337 hb
                 have BK352 := Aside0.mk (hbox)
                 have GW352 := tge HB hg
                 have GE352 := tge HB hg
                 replace HB := tBs HB hb
                 have NB334_352 := tlt BK334 hg
                 have NB352_334 := tgt BK334 hg
                 replace BK334 := tBb BK334 hb
                 clear hb hbox hg
                 refine hK.out _ _ ⟨HS0_, HS1_, HS2_, HS3_, HS4_, HS5_⟩ (fun hHeld => ?_)
                 clear hK K
                 refine tnm (some 5) ?_
                 exact tnx (hJ25 (gb352) _ ⟨hHeld, (tR HO337.out), (tH BK334.out), (tH BK352.out), GW352.out, GE352.out, NB334_352.out, NB352_334.out, zb⟩)
               ·skip
                rintro gb352 w19 ⟨hS_, h0_, h1_, h2_, h3_, h4_, h5_, h6_, h7_⟩
                try dsimp only at hS_ h0_ h1_ h2_ h3_ h4_ h5_ h6_ h7_
                clear HO337 BK334 HB
                have HO337 := Aside0.mk h0_
                have BK334 := Aside0.mk h1_
                have BK352 := Aside0.mk h2_
                have GW352 := Aside0.mk h3_
                have GE352 := Aside0.mk h4_
                have NB334_352 := Aside0.mk h5_
                have NB352_334 := Aside0.mk h6_
                have HB := Aside0.mk h7_
                clear h0_ h1_ h2_ h3_ h4_ h5_ h6_ h7_
                have hHeld := hS_
                refine tnp ?_
                refine one_ (i := 3) (N := some 15) #[true, true, true, true, true, true, true, false, true, true, true, true, true, true, true, false, true, true, true, true, true, true, true, false, false, true, false] rfl rfl (one_of HT_.out (by kernel_rfl)) (by decide) (fun K hK => ?_)
                refine goes_ Tryd.func43 (by kernel_rfl) rfl #[.string (rdOf ByteArray.empty t335 0)] (by rfl) rfl rfl tq ?_
                with_reducible refine (spec_l41Number.calls k (rdOf ByteArray.empty t335 0) t339 _ A5.out).mono ?_
                rintro e w' ⟨rfl, ⟨nd, rfl⟩⟩
                refine ⟨_, rfl, ?_⟩
                refine hK.out _ _ ⟨hHeld.1, hHeld.2.1, hHeld.2.2.1, hHeld.2.2.2.1, hHeld.2.2.2.2.1, hHeld.2.2.2.2.2⟩ (fun hHeld => ?_)
                clear hK K
                refine tnm (some 15) ?_
                exact tnx (hJ3_25 (gb352) _ ⟨hHeld, (tR HO337.out), (tH BK334.out), (tH BK352.out), GW352.out, GE352.out, NB334_352.out, NB352_334.out, zb⟩)
              ·skip
               rintro _ w18 ⟨hS_, h0_, h1_, h2_⟩
               try dsimp only at hS_ h0_ h1_ h2_
               clear HO337 BK334 HB
               have HO337 := Aside0.mk h0_
               have BK334 := Aside0.mk h1_
               have HB := Aside0.mk h2_
               clear h0_ h1_ h2_
               have hHeld := hS_
               refine tnp ?_
               refine two_ (i := 7) (j := 25) (Ni := some 19) (Nj := some 5) #[true, true, true, true, true, true, true, true, true, true, true, true, true, true, true, false, true, true, true, true, true, true, true, false, false, false, false] #[true, true, true, true, true, true, true, false, true, true, true, true, true, true, true, false, true, true, true, true, true, true, true, false, false, true, false] rfl rfl rfl rfl (two_of HT_.out (by kernel_rfl)) (by decide) (by decide) (fun K hK => ?_) (fun K hK => ?_)
               ·skip
                refine goes_ Tryd.func43 (by kernel_rfl) rfl #[.string (rdOf ByteArray.empty t335 1)] (by rfl) rfl rfl tq ?_
                with_reducible refine (spec_l41Number.calls k (rdOf ByteArray.empty t335 1) t341 _ A7.out).mono ?_
                rintro e w' ⟨rfl, ⟨nd, rfl⟩⟩
                refine ⟨_, rfl, ?_⟩
                refine hK.out _ _ ⟨hHeld.1, hHeld.2.1, hHeld.2.2.1, hHeld.2.2.2.1, hHeld.2.2.2.2.1, hHeld.2.2.2.2.2⟩ (fun hHeld => ?_)
                clear hK K
                refine tnm (some 19) ?_
                exact tnx (hJ3_7 () _ ⟨hHeld, (tR HO337.out), (tH BK334.out), zb⟩)
               ·skip
                refine box_step ?hg (N := 5) ?hd (cs := #[.int .i64 0, .int .i64 0, .bool false, .slice none 0 0, .bool false, .slice none 0 0]) (t := 25) ?hr ?_; (case hd => rfl); (case hg => rfl); (case hr => first | (go_simp; done) | (go_simp; rfl))
                intro gb352 hg w19 hbox hb
                have HS0_ := tcb hb hHeld.1
                have HS1_ := tcb hb hHeld.2.1
                have HS2_ := tcb hb hHeld.2.2.1
                have HS3_ := tcb hb hHeld.2.2.2.1
                have HS4_ := tcb hb hHeld.2.2.2.2.1
                have HS5_ := tcb hb hHeld.2.2.2.2.2
                replace HO337 := tRb HO337 hb
                have BK352 := Aside0.mk (hbox)
                have GW352 := tge HB hg
                have GE352 := tge HB hg
                replace HB := tBs HB hb
                have NB334_352 := tlt BK334 hg
                have NB352_334 := tgt BK334 hg
                replace BK334 := tBb BK334 hb
                clear hb hbox hg
                refine hK.out _ _ ⟨HS0_, HS1_, HS2_, HS3_, HS4_, HS5_⟩ (fun hHeld => ?_)
                clear hK K
                refine tnm (some 5) ?_
                exact tnx (hJ3_25 (gb352) _ ⟨hHeld, (tR HO337.out), (tH BK334.out), (tH BK352.out), GW352.out, GE352.out, NB334_352.out, NB352_334.out, zb⟩)
             ·skip
              rintro gb352 w19 ⟨hS_, h0_, h1_, h2_, h3_, h4_, h5_, h6_, h7_⟩
              try dsimp only at hS_ h0_ h1_ h2_ h3_ h4_ h5_ h6_ h7_
              clear HO337 BK334 HB
              have HO337 := Aside0.mk h0_
              have BK334 := Aside0.mk h1_
              have BK352 := Aside0.mk h2_
              have GW352 := Aside0.mk h3_
              have GE352 := Aside0.mk h4_
              have NB334_352 := Aside0.mk h5_
              have NB352_334 := Aside0.mk h6_
              have HB := Aside0.mk h7_
              clear h0_ h1_ h2_ h3_ h4_ h5_ h6_ h7_
              have hHeld := hS_
              refine tnp ?_
              refine one_ (i := 7) (N := some 19) #[true, true, true, true, true, true, true, true, true, true, true, true, true, true, true, false, true, true, true, true, true, true, true, false, false, true, false] rfl rfl (one_of HT_.out (by kernel_rfl)) (by decide) (fun K hK => ?_)
              refine goes_ Tryd.func43 (by kernel_rfl) rfl #[.string (rdOf ByteArray.empty t335 1)] (by rfl) rfl rfl tq ?_
              with_reducible refine (spec_l41Number.calls k (rdOf ByteArray.empty t335 1) t341 _ A7.out).mono ?_
              rintro e w' ⟨rfl, ⟨nd, rfl⟩⟩
              refine ⟨_, rfl, ?_⟩
              refine hK.out _ _ ⟨hHeld.1, hHeld.2.1, hHeld.2.2.1, hHeld.2.2.2.1, hHeld.2.2.2.2.1, hHeld.2.2.2.2.2⟩ (fun hHeld => ?_)
              clear hK K
              refine tnm (some 19) ?_
              exact tnx (hJ3_7_25 (gb352) _ ⟨hHeld, (tR HO337.out), (tH BK334.out), (tH BK352.out), GW352.out, GE352.out, NB334_352.out, NB352_334.out, zb⟩)
            ·skip
             rintro _ w18 ⟨hS_, h0_, h1_, h2_⟩
             try dsimp only at hS_ h0_ h1_ h2_
             clear HO337 BK334 HB
             have HO337 := Aside0.mk h0_
             have BK334 := Aside0.mk h1_
             have HB := Aside0.mk h2_
             clear h0_ h1_ h2_
             have hHeld := hS_
             refine tnp ?_
             refine two_ (i := 15) (j := 25) (Ni := some 27) (Nj := some 5) #[true, true, true, true, true, true, true, true, true, true, true, true, true, true, true, true, true, true, true, true, true, true, true, false, false, false, false] #[true, true, true, true, true, true, true, true, true, true, true, true, true, true, true, false, true, true, true, true, true, true, true, false, false, true, false] rfl rfl rfl rfl (two_of HT_.out (by kernel_rfl)) (by decide) (by decide) (fun K hK => ?_) (fun K hK => ?_)
             ·skip
              refine goes_ Tryd.func44 (by kernel_rfl) rfl #[.string (rdOf ByteArray.empty t335 2)] (by rfl) rfl rfl tq ?_
              with_reducible refine (spec_l41Bytes.calls k (rdOf ByteArray.empty t335 2) t344 _ A9.out).mono ?_
              rintro e w19 ⟨v345, rfl, ho0, hb⟩
              have HS0_ := tcb hb hHeld.1
              have HS1_ := tcb hb hHeld.2.1
              have HS2_ := tcb hb hHeld.2.2.1
              have HS3_ := tcb hb hHeld.2.2.2.1
              have HS4_ := tcb hb hHeld.2.2.2.2.1
              have HS5_ := tcb hb hHeld.2.2.2.2.2
              refine ⟨_, rfl, ?_⟩
              replace HO337 := tRb HO337 hb
              have HO346 := tRl ho0 HB
              replace BK334 := tBb BK334 hb
              replace HB := tBs HB hb
              (try clear hb)
              (try clear hb2)
              (try clear hk)
              (try clear hi)
              (try clear ho0)
              refine hK.out _ _ ⟨HS0_, HS1_, HS2_, HS3_, HS4_, HS5_⟩ (fun hHeld => ?_)
              clear hK K
              refine tnm (some 27) ?_
              exact tnx (hJ3_7_15 (v345) _ ⟨hHeld, (tR HO337.out), (tR HO346.out), (tH BK334.out), zb⟩)
             ·skip
              refine box_step ?hg (N := 5) ?hd (cs := #[.int .i64 0, .int .i64 0, .bool false, .slice none 0 0, .bool false, .slice none 0 0]) (t := 25) ?hr ?_; (case hd => rfl); (case hg => rfl); (case hr => first | (go_simp; done) | (go_simp; rfl))
              intro gb352 hg w19 hbox hb
              have HS0_ := tcb hb hHeld.1
              have HS1_ := tcb hb hHeld.2.1
              have HS2_ := tcb hb hHeld.2.2.1
              have HS3_ := tcb hb hHeld.2.2.2.1
              have HS4_ := tcb hb hHeld.2.2.2.2.1
              have HS5_ := tcb hb hHeld.2.2.2.2.2
              replace HO337 := tRb HO337 hb
              have BK352 := Aside0.mk (hbox)
              have GW352 := tge HB hg
              have GE352 := tge HB hg
              replace HB := tBs HB hb
              have NB334_352 := tlt BK334 hg
              have NB352_334 := tgt BK334 hg
              replace BK334 := tBb BK334 hb
              clear hb hbox hg
              refine hK.out _ _ ⟨HS0_, HS1_, HS2_, HS3_, HS4_, HS5_⟩ (fun hHeld => ?_)
              clear hK K
              refine tnm (some 5) ?_
              exact tnx (hJ3_7_25 (gb352) _ ⟨hHeld, (tR HO337.out), (tH BK334.out), (tH BK352.out), GW352.out, GE352.out, NB334_352.out, NB352_334.out, zb⟩)
           ·skip
            rintro gb352 w19 ⟨hS_, h0_, h1_, h2_, h3_, h4_, h5_, h6_, h7_⟩
            try dsimp only at hS_ h0_ h1_ h2_ h3_ h4_ h5_ h6_ h7_
            clear HO337 BK334 HB
            have HO337 := Aside0.mk h0_
            have BK334 := Aside0.mk h1_
            have BK352 := Aside0.mk h2_
            have GW352 := Aside0.mk h3_
            have GE352 := Aside0.mk h4_
            have NB334_352 := Aside0.mk h5_
            have NB352_334 := Aside0.mk h6_
            have HB := Aside0.mk h7_
            clear h0_ h1_ h2_ h3_ h4_ h5_ h6_ h7_
            have hHeld := hS_
            refine tnp ?_
            refine one_ (i := 15) (N := some 27) #[true, true, true, true, true, true, true, true, true, true, true, true, true, true, true, true, true, true, true, true, true, true, true, false, false, true, false] rfl rfl (one_of HT_.out (by kernel_rfl)) (by decide) (fun K hK => ?_)
            refine goes_ Tryd.func44 (by kernel_rfl) rfl #[.string (rdOf ByteArray.empty t335 2)] (by rfl) rfl rfl tq ?_
            with_reducible refine (spec_l41Bytes.calls k (rdOf ByteArray.empty t335 2) t344 _ A9.out).mono ?_
            rintro e w20 ⟨v345, rfl, ho0, hb⟩
            have HS0_ := tcb hb hHeld.1
            have HS1_ := tcb hb hHeld.2.1
            have HS2_ := tcb hb hHeld.2.2.1
            have HS3_ := tcb hb hHeld.2.2.2.1
            have HS4_ := tcb hb hHeld.2.2.2.2.1
            have HS5_ := tcb hb hHeld.2.2.2.2.2
            refine ⟨_, rfl, ?_⟩
            replace HO337 := tRb HO337 hb
            have HO346 := tRl ho0 HB
            replace BK334 := tBb BK334 hb
            replace BK352 := tBb BK352 hb
            replace HB := tBs HB hb
            (try clear hb)
            (try clear hb2)
            (try clear hk)
            (try clear hi)
            (try clear ho0)
            refine hK.out _ _ ⟨HS0_, HS1_, HS2_, HS3_, HS4_, HS5_⟩ (fun hHeld => ?_)
            clear hK K
            refine tnm (some 27) ?_
            exact tnx (hJ3_7_15_25 (v345, gb352) _ ⟨hHeld, (tR HO337.out), (tR HO346.out), (tH BK334.out), (tH BK352.out), GW352.out, GE352.out, NB334_352.out, NB352_334.out, zb⟩)
          ·skip
           rintro v345 w19 ⟨hS_, h0_, h1_, h2_, h3_⟩
           try dsimp only at hS_ h0_ h1_ h2_ h3_
           clear HO337 BK334 HB
           have HO337 := Aside0.mk h0_
           have HO346 := Aside0.mk h1_
           have BK334 := Aside0.mk h2_
           have HB := Aside0.mk h3_
           clear h0_ h1_ h2_ h3_
           have hHeld := hS_
           refine tnp ?_
           refine two_ (i := 23) (j := 25) (Ni := some 35) (Nj := some 5) #[true, true, true, true, true, true, true, true, true, true, true, true, true, true, true, true, true, true, true, true, true, true, true, true, false, false, false] #[true, true, true, true, true, true, true, true, true, true, true, true, true, true, true, true, true, true, true, true, true, true, true, false, false, true, false] rfl rfl rfl rfl (two_of HT_.out (by kernel_rfl)) (by decide) (by decide) (fun K hK => ?_) (fun K hK => ?_)
           ·skip
            refine goes_ Tryd.func44 (by kernel_rfl) rfl #[.string (rdOf ByteArray.empty t335 3)] (by rfl) rfl rfl tq ?_
            with_reducible refine (spec_l41Bytes.calls k (rdOf ByteArray.empty t335 3) t349 _ A11.out).mono ?_
            rintro e w20 ⟨v350, rfl, ho0, hb⟩
            have HS0_ := tcb hb hHeld.1
            have HS1_ := tcb hb hHeld.2.1
            have HS2_ := tcb hb hHeld.2.2.1
            have HS3_ := tcb hb hHeld.2.2.2.1
            have HS4_ := tcb hb hHeld.2.2.2.2.1
            have HS5_ := tcb hb hHeld.2.2.2.2.2
            refine ⟨_, rfl, ?_⟩
            replace HO337 := tRb HO337 hb
            have HO351 := Aside0.mk (Kd.R_lower (Kd.R_new' ho0 (Kd.R_lt (tR HO346.out))) (below_size zb))
            replace HO346 := Aside0.mk (Kd.R_elder' (tR HO346.out) (Kd.R_base ho0) hb)
            replace BK334 := tBb BK334 hb
            replace HB := tBs HB hb
            (try clear hb)
            (try clear hb2)
            (try clear hk)
            (try clear hi)
            (try clear ho0)
            obtain ⟨Ao21, co21, eo21⟩ := Kd.R_slice HO351.out
            (first | subst eo21 | (injection eo21 with f1_ f2_ f3_; have f4_ := f1_.symm; have f5_ := f3_.symm; clear f1_ f2_ f3_; subst f4_; subst f5_))
            obtain ⟨Ao22, co22, eo22⟩ := Kd.R_slice HO346.out
            (first | subst eo22 | (injection eo22 with f1_ f2_ f3_; have f4_ := f1_.symm; have f5_ := f3_.symm; clear f1_ f2_ f3_; subst f4_; subst f5_))
            refine hK.out _ _ ⟨HS0_, HS1_, HS2_, HS3_, HS4_, HS5_⟩ (fun hHeld => ?_)
            clear hK K
            refine tnm (some 35) ?_
            refine tpu 24 (some 36) #[true, true, true, true, true, true, true, true, true, true, true, true, true, true, true, true, true, true, true, true, true, true, true, true, true, false, false] ?_
            exact tnx (hJ3_7_15_23 (.slice Ao22 t344.length co22, .slice Ao21 t349.length co21) _ ⟨hHeld, (tR HO337.out), (tRm HO346.out), (tRm HO351.out), (tH BK334.out), zb⟩)
           ·skip
            refine box_step ?hg (N := 5) ?hd (cs := #[.int .i64 0, .int .i64 0, .bool false, .slice none 0 0, .bool false, .slice none 0 0]) (t := 25) ?hr ?_; (case hd => rfl); (case hg => rfl); (case hr => first | (go_simp; done) | (go_simp; rfl))
            intro gb352 hg w20 hbox hb
            have HS0_ := tcb hb hHeld.1
            have HS1_ := tcb hb hHeld.2.1
            have HS2_ := tcb hb hHeld.2.2.1
            have HS3_ := tcb hb hHeld.2.2.2.1
            have HS4_ := tcb hb hHeld.2.2.2.2.1
            have HS5_ := tcb hb hHeld.2.2.2.2.2
            replace HO337 := tRb HO337 hb
            replace HO346 := tRb HO346 hb
            have BK352 := Aside0.mk (hbox)
            have GW352 := tge HB hg
            have GE352 := tge HB hg
            replace HB := tBs HB hb
            have NB334_352 := tlt BK334 hg
            have NB352_334 := tgt BK334 hg
            replace BK334 := tBb BK334 hb
            clear hb hbox hg
            refine hK.out _ _ ⟨HS0_, HS1_, HS2_, HS3_, HS4_, HS5_⟩ (fun hHeld => ?_)
            clear hK K
            refine tnm (some 5) ?_
            exact tnx (hJ3_7_15_25 (v345, gb352) _ ⟨hHeld, (tR HO337.out), (tR HO346.out), (tH BK334.out), (tH BK352.out), GW352.out, GE352.out, NB334_352.out, NB352_334.out, zb⟩)
         ·skip
          rintro ⟨v345, gb352⟩ w20 ⟨hS_, h0_, h1_, h2_, h3_, h4_, h5_, h6_, h7_, h8_⟩
          try dsimp only at hS_ h0_ h1_ h2_ h3_ h4_ h5_ h6_ h7_ h8_
          clear HO337 BK334 HB
          have HO337 := Aside0.mk h0_
          have HO346 := Aside0.mk h1_
          have BK334 := Aside0.mk h2_
          have BK352 := Aside0.mk h3_
          have GW352 := Aside0.mk h4_
          have GE352 := Aside0.mk h5_
          have NB334_352 := Aside0.mk h6_
          have NB352_334 := Aside0.mk h7_
          have HB := Aside0.mk h8_
          clear h0_ h1_ h2_ h3_ h4_ h5_ h6_ h7_ h8_
          have hHeld := hS_
          refine tnp ?_
          refine one_ (i := 23) (N := some 35) #[true, true, true, true, true, true, true, true, true, true, true, true, true, true, true, true, true, true, true, true, true, true, true, true, false, true, false] rfl rfl (one_of HT_.out (by kernel_rfl)) (by decide) (fun K hK => ?_)
          refine goes_ Tryd.func44 (by kernel_rfl) rfl #[.string (rdOf ByteArray.empty t335 3)] (by rfl) rfl rfl tq ?_
          with_reducible refine (spec_l41Bytes.calls k (rdOf ByteArray.empty t335 3) t349 _ A11.out).mono ?_
          rintro e w21 ⟨v350, rfl, ho0, hb⟩
          have HS0_ := tcb hb hHeld.1
          have HS1_ := tcb hb hHeld.2.1
          have HS2_ := tcb hb hHeld.2.2.1
          have HS3_ := tcb hb hHeld.2.2.2.1
          have HS4_ := tcb hb hHeld.2.2.2.2.1
          have HS5_ := tcb hb hHeld.2.2.2.2.2
          refine ⟨_, rfl, ?_⟩
          replace HO337 := tRb HO337 hb
          have HO351 := Aside0.mk (Kd.R_lower (Kd.R_new' ho0 (Kd.R_lt (tR HO346.out))) (below_size zb))
          replace HO346 := Aside0.mk (Kd.R_elder' (tR HO346.out) (Kd.R_base ho0) hb)
          replace BK334 := tBb BK334 hb
          replace BK352 := tBb BK352 hb
          replace HB := tBs HB hb
          (try clear hb)
          (try clear hb2)
          (try clear hk)
          (try clear hi)
          (try clear ho0)
          obtain ⟨Ao22, co22, eo22⟩ := Kd.R_slice HO351.out
          (first | subst eo22 | (injection eo22 with f1_ f2_ f3_; have f4_ := f1_.symm; have f5_ := f3_.symm; clear f1_ f2_ f3_; subst f4_; subst f5_))
          obtain ⟨Ao23, co23, eo23⟩ := Kd.R_slice HO346.out
          (first | subst eo23 | (injection eo23 with f1_ f2_ f3_; have f4_ := f1_.symm; have f5_ := f3_.symm; clear f1_ f2_ f3_; subst f4_; subst f5_))
          refine hK.out _ _ ⟨HS0_, HS1_, HS2_, HS3_, HS4_, HS5_⟩ (fun hHeld => ?_)
          clear hK K
          refine tnm (some 35) ?_
          refine tpu 24 (some 36) #[true, true, true, true, true, true, true, true, true, true, true, true, true, true, true, true, true, true, true, true, true, true, true, true, true, true, false] ?_
          exact tnx (hJ3_7_15_23_25 (.slice Ao23 t344.length co23, .slice Ao22 t349.length co22, gb352) _ ⟨hHeld, (tR HO337.out), (tRm HO346.out), (tRm HO351.out), (tH BK334.out), (tH BK352.out), GW352.out, GE352.out, NB334_352.out, NB352_334.out, zb⟩)
        ·skip
         rintro ⟨v345, v350⟩ w22 ⟨hS_, h0_, h1_, h2_, h3_, h4_⟩
         try dsimp only at hS_ h0_ h1_ h2_ h3_ h4_
         clear HO337 BK334 HB
         have HO337 := Aside0.mk h0_
         have HO346 := Aside0.mk h1_
         have HO351 := Aside0.mk h2_
         have BK334 := Aside0.mk h3_
         have HB := Aside0.mk h4_
         clear h0_ h1_ h2_ h3_ h4_
         have hHeld := hS_
         obtain ⟨Ao23, co23, eo23⟩ := Kd.R_slice HO351.out
         (first | subst eo23 | (injection eo23 with f1_ f2_ f3_; have f4_ := f1_.symm; have f5_ := f3_.symm; clear f1_ f2_ f3_; subst f4_; subst f5_))
         obtain ⟨Ao24, co24, eo24⟩ := Kd.R_slice HO346.out
         (first | subst eo24 | (injection eo24 with f1_ f2_ f3_; have f4_ := f1_.symm; have f5_ := f3_.symm; clear f1_ f2_ f3_; subst f4_; subst f5_))
         refine tnp ?_
         refine one_ (i := 25) (N := some 5) #[true, true, true, true, true, true, true, true, true, true, true, true, true, true, true, true, true, true, true, true, true, true, true, true, true, true, false] rfl rfl (one_of HT_.out (by kernel_rfl)) (by decide) (fun K hK => ?_)
         refine box_step ?hg (N := 5) ?hd (cs := #[.int .i64 0, .int .i64 0, .bool false, .slice none 0 0, .bool false, .slice none 0 0]) (t := 25) ?hr ?_; (case hd => rfl); (case hg => rfl); (case hr => first | (go_simp; done) | (go_simp; rfl))
         intro gb352 hg w25 hbox hb
         have HS0_ := tcb hb hHeld.1
         have HS1_ := tcb hb hHeld.2.1
         have HS2_ := tcb hb hHeld.2.2.1
         have HS3_ := tcb hb hHeld.2.2.2.1
         have HS4_ := tcb hb hHeld.2.2.2.2.1
         have HS5_ := tcb hb hHeld.2.2.2.2.2
         replace HO337 := tRb HO337 hb
         replace HO346 := tRb HO346 hb
         replace HO351 := tRb HO351 hb
         have BK352 := Aside0.mk (hbox)
         have GW352 := tge HB hg
         have GE352 := tge HB hg
         replace HB := tBs HB hb
         have NB334_352 := tlt BK334 hg
         have NB352_334 := tgt BK334 hg
         replace BK334 := tBb BK334 hb
         clear hb hbox hg
         refine hK.out _ _ ⟨HS0_, HS1_, HS2_, HS3_, HS4_, HS5_⟩ (fun hHeld => ?_)
         clear hK K
         refine tnm (some 5) ?_
         exact tnx (hJ3_7_15_23_25 (.slice Ao24 t344.length co24, .slice Ao23 t349.length co23, gb352) _ ⟨hHeld, (tR HO337.out), (tR HO346.out), (tR HO351.out), (tH BK334.out), (tH BK352.out), GW352.out, GE352.out, NB334_352.out, NB352_334.out, zb⟩)
       rintro ⟨v345, v350, gb352⟩ w23 ⟨hS_, h0_, h1_, h2_, h3_, h4_, h5_, h6_, h7_, h8_, h9_⟩
       try dsimp only at hS_ h0_ h1_ h2_ h3_ h4_ h5_ h6_ h7_ h8_ h9_
       clear HO337 BK334 HB
       have HO337 := Aside0.mk h0_
       have HO346 := Aside0.mk h1_
       have HO351 := Aside0.mk h2_
       have BK334 := Aside0.mk h3_
       have BK352 := Aside0.mk h4_
       have GW352 := Aside0.mk h5_
       have GE352 := Aside0.mk h6_
       have NB334_352 := Aside0.mk h7_
       have NB352_334 := Aside0.mk h8_
       have HB := Aside0.mk h9_
       clear h0_ h1_ h2_ h3_ h4_ h5_ h6_ h7_ h8_ h9_
       have hHeld := hS_
       obtain ⟨Ao24, co24, eo24⟩ := Kd.R_slice HO351.out
       (first | subst eo24 | (injection eo24 with f1_ f2_ f3_; have f4_ := f1_.symm; have f5_ := f3_.symm; clear f1_ f2_ f3_; subst f4_; subst f5_))
       obtain ⟨Ao25, co25, eo25⟩ := Kd.R_slice HO346.out
       (first | subst eo25 | (injection eo25 with f1_ f2_ f3_; have f4_ := f1_.symm; have f5_ := f3_.symm; clear f1_ f2_ f3_; subst f4_; subst f5_))
       refine tnp ?_
       refine one_ (i := 26) (N := none) #[true, true, true, true, true, true, true, true, true, true, true, true, true, true, true, true, true, true, true, true, true, true, true, true, true, true, true] rfl rfl (one_of HT_.out (by kernel_rfl)) (by decide) (fun K hK => ?_)
       have hs26 : w23.cell? ⟨gb352, 0, none⟩ = some (.int .i64 0) := (blk_cell BK352.out 0).trans rfl
       have hfs26 := blk_frozen BK352.out 0
       have hns26_0 := NB334_352.out
       have hms26_0 := NB352_334.out
       have hs27 : w23.cell? ⟨gb352, 1, none⟩ = some (.int .i64 0) := (blk_cell BK352.out 1).trans rfl
       have hfs27 := blk_frozen BK352.out 1
       have hs28 : w23.cell? ⟨gb352, 2, none⟩ = some (.bool false) := (blk_cell BK352.out 2).trans rfl
       have hfs28 := blk_frozen BK352.out 2
       have hs29 : w23.cell? ⟨gb352, 3, none⟩ = some (.slice none 0 0) := (blk_cell BK352.out 3).trans rfl
       have hfs29 := blk_frozen BK352.out 3
       have hs30 : w23.cell? ⟨gb352, 4, none⟩ = some (.bool false) := (blk_cell BK352.out 4).trans rfl
       have hfs30 := blk_frozen BK352.out 4
       have hs31 : w23.cell? ⟨gb352, 5, none⟩ = some (.slice none 0 0) := (blk_cell BK352.out 5).trans rfl
       have hfs31 := blk_frozen BK352.out 5
       refine tsk ?_
       refine hK.out _ _ ⟨(tcg (Kd.own_blk (Kd.R_ne HO337.out BK352.out (by decide))) hHeld.1), (tcg (Kd.own_blk (Kd.R_ne HO337.out BK352.out (by decide))) hHeld.2.1), (tcg (Kd.own_blk (Kd.R_ne HO337.out BK352.out (by decide))) hHeld.2.2.1), (tcg (Kd.own_blk (Kd.R_ne HO337.out BK352.out (by decide))) hHeld.2.2.2.1), (tcg (Kd.own_blk (Kd.R_ne HO337.out BK352.out (by decide))) hHeld.2.2.2.2.1), (tcg (Kd.own_blk (Kd.R_ne HO337.out BK352.out (by decide))) hHeld.2.2.2.2.2)⟩ (fun hHeld => ?_)
       clear hK K
       refine done_ (done_of HT_.out (by kernel_rfl)) ?_
       have hnb32 := NB352_334.out
       have hnc32 := NB334_352.out
       obtain ⟨hcz33_0, hcz33_1, hcz33_2, hcz33_3, hcz33_4, hcz33_5, hfz33_0, hfz33_1, hfz33_2, hfz33_3, hfz33_4, hfz33_5⟩ := cells6 BK352.out
       try go_wp2_with (first | ((with_reducible refine gate_callee (f := 14) rfl ?_); refine goesL_ (some 38) rfl rfl Tryd.func14 (by kernel_rfl) rfl #[.agg #[.int .i64 t339, .int .i64 t341, .bool ((rdOf ByteArray.empty t335 2).toList != ([45] : List UInt8)), .slice Ao25 t344.length co25, .bool ((rdOf ByteArray.empty t335 3).toList != ([45] : List UInt8)), .slice Ao24 t349.length co24]] rfl tq ?_; (with_reducible refine (spec_RecordText.calls k t339 t341 ((rdOf ByteArray.empty t335 2).toList != ([45] : List UInt8)) _ _ t344 ((rdOf ByteArray.empty t335 3).toList != ([45] : List UInt8)) _ _ t349 t353 _ ?side1 ?side2 ?side3 ?side4 A12.out).mono ?_); (case side1 => refine (Kd.R_reads' (e := 3) (base := w.heap.size) (ok := fun k_ => some k_ ≠ (.slice Ao24 t349.length co24 : Value).ownBlock) (n := t344.length) (c := co25) ?_).2.2; exact (tRt HO346.out BK352.out)); (case side2 => exact (Kd.R_reads' HO346.out).2.1); (case side3 => refine (Kd.R_reads' (e := 3) (base := w.heap.size) (ok := fun k_ => some k_ ≠ (.slice Ao25 t344.length co25 : Value).ownBlock) (n := t349.length) (c := co24) ?_).2.2; exact (tRt HO351.out BK352.out)); (case side4 => exact (Kd.R_reads' HO351.out).2.1); rintro e w34 ⟨rfl, hb⟩; refine ⟨_, rfl, ?_⟩; replace HO337 := Aside0.mk (Kd.R_below (tRt HO337.out BK352.out) hb); replace HO346 := Aside0.mk (Kd.R_below (tRt HO346.out BK352.out) hb); replace HO351 := Aside0.mk (Kd.R_below (tRt HO351.out BK352.out) hb); replace BK334 := tBb BK334 hb; replace BK352 := Aside0.mk (blk_below (g := gb352) (o := .cells #[.int .i64 t339, .int .i64 t341, .bool ((rdOf ByteArray.empty t335 2).toList != ([45] : List UInt8)), .slice Ao25 t344.length co25, .bool ((rdOf ByteArray.empty t335 3).toList != ([45] : List UInt8)), .slice Ao24 t349.length co24] 25 (0, 0)) (by (with_reducible repeat (first | refine blk_drewN ?_ _ | refine blk_drew ?_ | refine blk_alloc ?_ _)); refine blk_put (cs := #[.int .i64 t339, .int .i64 t341, .bool ((rdOf ByteArray.empty t335 2).toList != ([45] : List UInt8)), .slice Ao25 t344.length co25, .bool ((rdOf ByteArray.empty t335 3).toList != ([45] : List UInt8)), .slice none 0 0]) ?_ 5 _ rfl; (with_reducible repeat (first | refine blk_drewN ?_ _ | refine blk_drew ?_ | refine blk_alloc ?_ _)); refine blk_put (cs := #[.int .i64 t339, .int .i64 t341, .bool ((rdOf ByteArray.empty t335 2).toList != ([45] : List UInt8)), .slice Ao25 t344.length co25, .bool false, .slice none 0 0]) ?_ 4 _ rfl; (with_reducible repeat (first | refine blk_drewN ?_ _ | refine blk_drew ?_ | refine blk_alloc ?_ _)); refine blk_put (cs := #[.int .i64 t339, .int .i64 t341, .bool ((rdOf ByteArray.empty t335 2).toList != ([45] : List UInt8)), .slice none 0 0, .bool false, .slice none 0 0]) ?_ 3 _ rfl; exact tP BK352.out) hb); replace HB := tBs HB hb; (try clear hb); (try clear hb2); (try clear hk); (try clear hi); obtain ⟨hcz35_0, hcz35_1, hcz35_2, hcz35_3, hcz35_4, hcz35_5, hfz35_0, hfz35_1, hfz35_2, hfz35_3, hfz35_4, hfz35_5⟩ := cells6 BK352.out; obtain ⟨hcz36_0, hcz36_1, hcz36_2, hcz36_3, hcz36_4, hcz36_5, hfz36_0, hfz36_1, hfz36_2, hfz36_3, hfz36_4, hfz36_5⟩ := cells6 BK334.out))
       refine bodyPost_ret (results_ct rfl _ _ gb334 25 #[.int .i64 t339, .int .i64 t341, .bool ((rdOf ByteArray.empty t335 2).toList != ([45] : List UInt8)), .slice Ao25 t344.length co25, .bool ((rdOf ByteArray.empty t335 3).toList != ([45] : List UInt8)), .slice Ao24 t349.length co24] (0, 0) _ rfl (by (with_reducible repeat (first | refine blk_drewN ?_ _ | refine blk_drew ?_ | refine blk_alloc ?_ _)); refine blk_put (cs := #[.int .i64 t339, .int .i64 t341, .bool ((rdOf ByteArray.empty t335 2).toList != ([45] : List UInt8)), .slice Ao25 t344.length co25, .bool ((rdOf ByteArray.empty t335 3).toList != ([45] : List UInt8)), .slice none 0 0]) ?_ 5 _ rfl; (with_reducible repeat (first | refine blk_drewN ?_ _ | refine blk_drew ?_ | refine blk_alloc ?_ _)); refine blk_put (cs := #[.int .i64 t339, .int .i64 t341, .bool ((rdOf ByteArray.empty t335 2).toList != ([45] : List UInt8)), .slice Ao25 t344.length co25, .bool false, .slice none 0 0]) ?_ 4 _ rfl; (with_reducible repeat (first | refine blk_drewN ?_ _ | refine blk_drew ?_ | refine blk_alloc ?_ _)); refine blk_put (cs := #[.int .i64 t339, .int .i64 t341, .bool ((rdOf ByteArray.empty t335 2).toList != ([45] : List UInt8)), .slice none 0 0, .bool false, .slice none 0 0]) ?_ 3 _ rfl; exact tP BK334.out) Tryd.underlying25 rfl (by kernel_rfl)) rfl ?_
       exact ⟨_, _, by first | rfl | (simp [errW_none, errW_some] <;> rfl) | (simp [*, errW_none, errW_some] <;> rfl), tRm (Kd.R_types HO346.out BK334.out (by decide)), tRm (Kd.R_types HO351.out BK334.out (by decide)), zb⟩
      ·rw [if_neg c13] at H
       have c13b0 : (t353.toList == a0.toList) = false := beq_eq_false_iff_ne.mpr c13
       have c13b1 : (t353.toList != a0.toList) = true := bne_iff_ne.mpr c13
       simp only [Option.some.injEq, Prod.mk.injEq] at H
       obtain ⟨rfl, rfl, rfl, rfl, rfl, rfl, rfl⟩ := H
       go_enter Tryd.func18, Tryd.ntmps18
       try go_wp2_with (first | ((with_reducible refine gate_dst (N := 2) rfl ?_); refine box_event ?hg (N := 2) ?hd (cs := #[.int .i64 0, .int .i64 0, .bool false, .slice none 0 0, .bool false, .slice none 0 0]) (t := 25) ?hr ?_; (case hd => rfl); (case hg => rfl); (case hr => first | (go_simp; done) | (go_simp; rfl)); intro gb334 hg w37 hbox hb; have BK334 := Aside0.mk (hbox); have GW334 := tge HB hg; have GE334 := tge HB hg; replace HB := tBs HB hb; clear hb hbox hg) | ((with_reducible refine gate_callee (f := 42) rfl ?_); refine goesL_ (some 7) rfl rfl Tryd.func42 (by kernel_rfl) rfl #[.string a0] rfl tq ?_; (with_reducible refine (spec_l41Cut.calls k a0 t335 _ A2.out).mono ?_); rintro e w38 ⟨v336, rfl, ho0, hb⟩; have u_v336 := tsv Tryd.prog v336 ho0; refine ⟨_, rfl, ?_⟩; have HO337 := tRl ho0 HB; replace BK334 := tBb BK334 hb; replace HB := tBs HB hb; (try clear hb); (try clear hb2); (try clear hk); (try clear hi); (try clear ho0); obtain ⟨Ao39, co39, eo39⟩ := Kd.R_slice HO337.out; subst eo39))
       replace HO337 := Aside0.mk (Kd.R_drew HO337.out)
       replace BK334 := Aside0.mk (blk_drew BK334.out)
       replace HB := Aside0.mk (below_drew1 HB.out)
       have p338 : 0 ≤ (0 : Int) := (by omega)
       have q338 : 0 < (t335.length : Int) := td
       obtain ⟨ad338, e338, hx338_0⟩ := Kd.at_string (Kd.R_reads' HO337.out).2.2 0 p338 q338
       cases e338
       have qi338 : (0 < t335.length) = True := eq_true (by omega)
       (try rw [show ((0 : Int)).toNat = 0 from rfl] at hx338_0)
       (try rw [Addr.add_zero'] at hx338_0)
       replace p338 := eq_true p338
       replace q338 := eq_true q338
       have p340 : 0 ≤ (1 : Int) := (by omega)
       have q340 : 1 < (t335.length : Int) := td
       obtain ⟨ad340, e340, hx340_0⟩ := Kd.at_string (Kd.R_reads' HO337.out).2.2 1 p340 q340
       obtain rfl : ad338 = ad340 := (by injection e340)
       (try simp only [show (1 : Int).toNat = 1 from rfl, Nat.reduceMul, Nat.reduceEqDiff, Go.Addr.add, ↓reduceIte] at hx340_0)
       have qi340 : (1 < t335.length) = True := eq_true (by omega)
       (try rw [show ((1 : Int)).toNat = 1 from rfl] at hx340_0)
       replace p340 := eq_true p340
       replace q340 := eq_true q340
       have p342 : 0 ≤ (2 : Int) := (by omega)
       have q342 : 2 < (t335.length : Int) := td
       obtain ⟨ad342, e342, hx342_0⟩ := Kd.at_string (Kd.R_reads' HO337.out).2.2 2 p342 q342
       obtain rfl : ad338 = ad342 := (by injection e342)
       (try simp only [show (2 : Int).toNat = 2 from rfl, Nat.reduceMul, Nat.reduceEqDiff, Go.Addr.add, ↓reduceIte] at hx342_0)
       have qi342 : (2 < t335.length) = True := eq_true (by omega)
       (try rw [show ((2 : Int)).toNat = 2 from rfl] at hx342_0)
       replace p342 := eq_true p342
       replace q342 := eq_true q342
       have p343 : 0 ≤ (2 : Int) := (by omega)
       have q343 : 2 < (t335.length : Int) := td
       obtain ⟨ad343, e343, hx343_0⟩ := Kd.at_string (Kd.R_reads' HO337.out).2.2 2 p343 q343
       obtain rfl : ad338 = ad343 := (by injection e343)
       (try simp only [show (2 : Int).toNat = 2 from rfl, Nat.reduceMul, Nat.reduceEqDiff, Go.Addr.add, ↓reduceIte] at hx343_0)
       have qi343 : (2 < t335.length) = True := eq_true (by omega)
       (try rw [show ((2 : Int)).toNat = 2 from rfl] at hx343_0)
       replace p343 := eq_true p343
       replace q343 := eq_true q343
       have p347 : 0 ≤ (3 : Int) := (by omega)
       have q347 : 3 < (t335.length : Int) := td
       obtain ⟨ad347, e347, hx347_0⟩ := Kd.at_string (Kd.R_reads' HO337.out).2.2 3 p347 q347
       obtain rfl : ad338 = ad347 := (by injection e347)
       (try simp only [show (3 : Int).toNat = 3 from rfl, Nat.reduceMul, Nat.reduceEqDiff, Go.Addr.add, ↓reduceIte] at hx347_0)
       have qi347 : (3 < t335.length) = True := eq_true (by omega)
       (try rw [show ((3 : Int)).toNat = 3 from rfl] at hx347_0)
       replace p347 := eq_true p347
       replace q347 := eq_true q347
       have p348 : 0 ≤ (3 : Int) := (by omega)
       have q348 : 3 < (t335.length : Int) := td
       obtain ⟨ad348, e348, hx348_0⟩ := Kd.at_string (Kd.R_reads' HO337.out).2.2 3 p348 q348
       obtain rfl : ad338 = ad348 := (by injection e348)
       (try simp only [show (3 : Int).toNat = 3 from rfl, Nat.reduceMul, Nat.reduceEqDiff, Go.Addr.add, ↓reduceIte] at hx348_0)
       have qi348 : (3 < t335.length) = True := eq_true (by omega)
       (try rw [show ((3 : Int)).toNat = 3 from rfl] at hx348_0)
       replace p348 := eq_true p348
       replace q348 := eq_true q348
       refine start_ (n := 27) (S := fun w' => w'.cell? ad338 = some (.string (rdOf ByteArray.empty t335 0)) ∧ w'.cell? ⟨ad338.block, ad338.off + 1, none⟩ = some (.string (rdOf ByteArray.empty t335 1)) ∧ w'.cell? ⟨ad338.block, ad338.off + 2, none⟩ = some (.string (rdOf ByteArray.empty t335 2)) ∧ w'.cell? ⟨ad338.block, ad338.off + 2, none⟩ = some (.string (rdOf ByteArray.empty t335 2)) ∧ w'.cell? ⟨ad338.block, ad338.off + 3, none⟩ = some (.string (rdOf ByteArray.empty t335 3)) ∧ w'.cell? ⟨ad338.block, ad338.off + 3, none⟩ = some (.string (rdOf ByteArray.empty t335 3))) (ds := []) #[false, false, false, false, false, false, false, false, false, false, false, false, false, false, false, false, false, false, false, false, false, false, false, false, false, false, false] (by kernel_rfl) rfl rfl ⟨hx338_0, hx340_0, hx342_0, hx343_0, hx347_0, hx348_0⟩ (fun hHeld => ?_); refine with_tabW spec_RecordOf.tab4 spec_RecordOf.bits4 (fun HT_ HW_ => ?_)
       generalize w38.drew = w40 at HO337 BK334 HB hx338_0 hx340_0 hx342_0 hx343_0 hx347_0 hx348_0 hHeld ⊢
       refine tpu 0 (some 12) #[true, false, false, false, false, false, false, false, false, false, false, false, false, false, false, false, false, false, false, false, false, false, false, false, false, false, false] ?_
       refine tpu 1 (some 13) #[true, true, false, false, false, false, false, false, false, false, false, false, false, false, false, false, false, false, false, false, false, false, false, false, false, false, false] ?_
       refine tpu 4 (some 16) #[true, true, false, false, true, false, false, false, false, false, false, false, false, false, false, false, false, false, false, false, false, false, false, false, false, false, false] ?_
       refine tpu 5 (some 17) #[true, true, false, false, true, true, false, false, false, false, false, false, false, false, false, false, false, false, false, false, false, false, false, false, false, false, false] ?_
       refine tpu 8 (some 20) #[true, true, false, false, true, true, false, false, true, false, false, false, false, false, false, false, false, false, false, false, false, false, false, false, false, false, false] ?_
       refine tpu 9 (some 21) #[true, true, false, false, true, true, false, false, true, true, false, false, false, false, false, false, false, false, false, false, false, false, false, false, false, false, false] ?_
       refine tpu 12 (some 24) #[true, true, false, false, true, true, false, false, true, true, false, false, true, false, false, false, false, false, false, false, false, false, false, false, false, false, false] ?_
       refine tpu 13 (some 25) #[true, true, false, false, true, true, false, false, true, true, false, false, true, true, false, false, false, false, false, false, false, false, false, false, false, false, false] ?_
       refine tpu 16 (some 28) #[true, true, false, false, true, true, false, false, true, true, false, false, true, true, false, false, true, false, false, false, false, false, false, false, false, false, false] ?_
       refine tpu 17 (some 29) #[true, true, false, false, true, true, false, false, true, true, false, false, true, true, false, false, true, true, false, false, false, false, false, false, false, false, false] ?_
       refine tpu 20 (some 32) #[true, true, false, false, true, true, false, false, true, true, false, false, true, true, false, false, true, true, false, false, true, false, false, false, false, false, false] ?_
       refine tpu 21 (some 33) #[true, true, false, false, true, true, false, false, true, true, false, false, true, true, false, false, true, true, false, false, true, true, false, false, false, false, false] ?_
       refine tta 2 (some 14) #[true, true, true, false, true, true, false, false, true, true, false, false, true, true, false, false, true, true, false, false, true, true, false, false, false, false, false] hHeld ?_ (hy := by rintro w' ⟨s0, s1, s2, s3, s4, s5⟩; go_simp; with_reducible rfl)
       refine tta 6 (some 18) #[true, true, true, false, true, true, true, false, true, true, false, false, true, true, false, false, true, true, false, false, true, true, false, false, false, false, false] hHeld ?_ (hy := by rintro w' ⟨s0, s1, s2, s3, s4, s5⟩; go_simp; with_reducible rfl)
       refine tta 10 (some 22) #[true, true, true, false, true, true, true, false, true, true, true, false, true, true, false, false, true, true, false, false, true, true, false, false, false, false, false] hHeld ?_ (hy := by rintro w' ⟨s0, s1, s2, s3, s4, s5⟩; go_simp; with_reducible rfl)
       refine tpu 11 (some 23) #[true, true, true, false, true, true, true, false, true, true, true, true, true, true, false, false, true, true, false, false, true, true, false, false, false, false, false] ?_
       refine tta 14 (some 26) #[true, true, true, false, true, true, true, false, true, true, true, true, true, true, true, false, true, true, false, false, true, true, false, false, false, false, false] hHeld ?_ (hy := by rintro w' ⟨s0, s1, s2, s3, s4, s5⟩; go_simp; with_reducible rfl)
       refine tta 18 (some 30) #[true, true, true, false, true, true, true, false, true, true, true, true, true, true, true, false, true, true, true, false, true, true, false, false, false, false, false] hHeld ?_ (hy := by rintro w' ⟨s0, s1, s2, s3, s4, s5⟩; go_simp; with_reducible rfl)
       refine tpu 19 (some 31) #[true, true, true, false, true, true, true, false, true, true, true, true, true, true, true, false, true, true, true, true, true, true, false, false, false, false, false] ?_
       refine tta 22 (some 34) #[true, true, true, false, true, true, true, false, true, true, true, true, true, true, true, false, true, true, true, true, true, true, true, false, false, false, false] hHeld ?_ (hy := by rintro w' ⟨s0, s1, s2, s3, s4, s5⟩; go_simp; with_reducible rfl)
       refine join_ (σ := Value × Value × Nat) 1 #[true, true, true, true, true, true, true, true, true, true, true, true, true, true, true, true, true, true, true, true, true, true, true, true, true, true, false] (fun s_ => [(15, .int .i64 t339), (19, .int .i64 t341), (27, s_.1), (35, s_.2.1), (5, .pointer (some ⟨s_.2.2, 0, none⟩)), (36, .agg #[.int .i64 t339, .int .i64 t341, .bool ((rdOf ByteArray.empty t335 2).toList != ([45] : List UInt8)), s_.1, .bool ((rdOf ByteArray.empty t335 3).toList != ([45] : List UInt8)), s_.2.1])]) (fun s_ w' => (w'.cell? ad338 = some (.string (rdOf ByteArray.empty t335 0)) ∧ w'.cell? ⟨ad338.block, ad338.off + 1, none⟩ = some (.string (rdOf ByteArray.empty t335 1)) ∧ w'.cell? ⟨ad338.block, ad338.off + 2, none⟩ = some (.string (rdOf ByteArray.empty t335 2)) ∧ w'.cell? ⟨ad338.block, ad338.off + 2, none⟩ = some (.string (rdOf ByteArray.empty t335 2)) ∧ w'.cell? ⟨ad338.block, ad338.off + 3, none⟩ = some (.string (rdOf ByteArray.empty t335 3)) ∧ w'.cell? ⟨ad338.block, ad338.off + 3, none⟩ = some (.string (rdOf ByteArray.empty t335 3))) ∧ (Kd.R Kd.string 9 w' w.heap.size (fun _ => True) (.slice (some ad338) t335.length co39) t335) ∧ (Kd.R (Kd.int .i64) 3 w' w.heap.size (fun k_ => some k_ ≠ (s_.2.1 : Value).ownBlock) s_.1 t344) ∧ (Kd.R (Kd.int .i64) 3 w' w.heap.size (fun k_ => some k_ ≠ (s_.1 : Value).ownBlock) s_.2.1 t349) ∧ (w'.heap[gb334]? = some (.cells #[.int .i64 0, .int .i64 0, .bool false, .slice none 0 0, .bool false, .slice none 0 0] 25 (0, 0))) ∧ (w'.heap[s_.2.2]? = some (.cells #[.int .i64 0, .int .i64 0, .bool false, .slice none 0 0, .bool false, .slice none 0 0] 25 (0, 0))) ∧ (w.heap.size ≤ s_.2.2) ∧ (w.heap.size ≤ s_.2.2) ∧ (gb334 ≠ s_.2.2) ∧ (s_.2.2 ≠ gb334) ∧ (Below w.heap.size w w')) ?_ ?_
       rotate_left
       ·intro hJ3_7_15_23_25
        refine join_ (σ := Value × Value) 2 #[true, true, true, true, true, true, true, true, true, true, true, true, true, true, true, true, true, true, true, true, true, true, true, true, true, false, false] (fun s_ => [(15, .int .i64 t339), (19, .int .i64 t341), (27, s_.1), (35, s_.2), (36, .agg #[.int .i64 t339, .int .i64 t341, .bool ((rdOf ByteArray.empty t335 2).toList != ([45] : List UInt8)), s_.1, .bool ((rdOf ByteArray.empty t335 3).toList != ([45] : List UInt8)), s_.2])]) (fun s_ w' => (w'.cell? ad338 = some (.string (rdOf ByteArray.empty t335 0)) ∧ w'.cell? ⟨ad338.block, ad338.off + 1, none⟩ = some (.string (rdOf ByteArray.empty t335 1)) ∧ w'.cell? ⟨ad338.block, ad338.off + 2, none⟩ = some (.string (rdOf ByteArray.empty t335 2)) ∧ w'.cell? ⟨ad338.block, ad338.off + 2, none⟩ = some (.string (rdOf ByteArray.empty t335 2)) ∧ w'.cell? ⟨ad338.block, ad338.off + 3, none⟩ = some (.string (rdOf ByteArray.empty t335 3)) ∧ w'.cell? ⟨ad338.block, ad338.off + 3, none⟩ = some (.string (rdOf ByteArray.empty t335 3))) ∧ (Kd.R Kd.string 9 w' w.heap.size (fun _ => True) (.slice (some ad338) t335.length co39) t335) ∧ (Kd.R (Kd.int .i64) 3 w' w.heap.size (fun k_ => some k_ ≠ (s_.2 : Value).ownBlock) s_.1 t344) ∧ (Kd.R (Kd.int .i64) 3 w' w.heap.size (fun k_ => some k_ ≠ (s_.1 : Value).ownBlock) s_.2 t349) ∧ (w'.heap[gb334]? = some (.cells #[.int .i64 0, .int .i64 0, .bool false, .slice none 0 0, .bool false, .slice none 0 0] 25 (0, 0))) ∧ (Below w.heap.size w w')) ?_ ?_
        rotate_left
        ·intro hJ3_7_15_23
         refine join_ (σ := Value × Nat) 3 #[true, true, true, true, true, true, true, true, true, true, true, true, true, true, true, true, true, true, true, true, true, true, true, false, false, true, false] (fun s_ => [(15, .int .i64 t339), (19, .int .i64 t341), (27, s_.1), (5, .pointer (some ⟨s_.2, 0, none⟩))]) (fun s_ w' => (w'.cell? ad338 = some (.string (rdOf ByteArray.empty t335 0)) ∧ w'.cell? ⟨ad338.block, ad338.off + 1, none⟩ = some (.string (rdOf ByteArray.empty t335 1)) ∧ w'.cell? ⟨ad338.block, ad338.off + 2, none⟩ = some (.string (rdOf ByteArray.empty t335 2)) ∧ w'.cell? ⟨ad338.block, ad338.off + 2, none⟩ = some (.string (rdOf ByteArray.empty t335 2)) ∧ w'.cell? ⟨ad338.block, ad338.off + 3, none⟩ = some (.string (rdOf ByteArray.empty t335 3)) ∧ w'.cell? ⟨ad338.block, ad338.off + 3, none⟩ = some (.string (rdOf ByteArray.empty t335 3))) ∧ (Kd.R Kd.string 9 w' w.heap.size (fun _ => True) (.slice (some ad338) t335.length co39) t335) ∧ (Kd.R (Kd.int .i64) 3 w' w.heap.size (fun _ => True) s_.1 t344) ∧ (w'.heap[gb334]? = some (.cells #[.int .i64 0, .int .i64 0, .bool false, .slice none 0 0, .bool false, .slice none 0 0] 25 (0, 0))) ∧ (w'.heap[s_.2]? = some (.cells #[.int .i64 0, .int .i64 0, .bool false, .slice none 0 0, .bool false, .slice none 0 0] 25 (0, 0))) ∧ (w.heap.size ≤ s_.2) ∧ (w.heap.size ≤ s_.2) ∧ (gb334 ≠ s_.2) ∧ (s_.2 ≠ gb334) ∧ (Below w.heap.size w w')) ?_ ?_
         rotate_left
         ·intro hJ3_7_15_25
          refine join_ (σ := Value) 4 #[true, true, true, true, true, true, true, true, true, true, true, true, true, true, true, true, true, true, true, true, true, true, true, false, false, false, false] (fun s_ => [(15, .int .i64 t339), (19, .int .i64 t341), (27, s_)]) (fun s_ w' => (w'.cell? ad338 = some (.string (rdOf ByteArray.empty t335 0)) ∧ w'.cell? ⟨ad338.block, ad338.off + 1, none⟩ = some (.string (rdOf ByteArray.empty t335 1)) ∧ w'.cell? ⟨ad338.block, ad338.off + 2, none⟩ = some (.string (rdOf ByteArray.empty t335 2)) ∧ w'.cell? ⟨ad338.block, ad338.off + 2, none⟩ = some (.string (rdOf ByteArray.empty t335 2)) ∧ w'.cell? ⟨ad338.block, ad338.off + 3, none⟩ = some (.string (rdOf ByteArray.empty t335 3)) ∧ w'.cell? ⟨ad338.block, ad338.off + 3, none⟩ = some (.string (rdOf ByteArray.empty t335 3))) ∧ (Kd.R Kd.string 9 w' w.heap.size (fun _ => True) (.slice (some ad338) t335.length co39) t335) ∧ (Kd.R (Kd.int .i64) 3 w' w.heap.size (fun _ => True) s_ t344) ∧ (w'.heap[gb334]? = some (.cells #[.int .i64 0, .int .i64 0, .bool false, .slice none 0 0, .bool false, .slice none 0 0] 25 (0, 0))) ∧ (Below w.heap.size w w')) ?_ ?_
          rotate_left
          ·intro hJ3_7_15
           refine join_ (σ := Nat) 4 #[true, true, true, true, true, true, true, true, true, true, true, true, true, true, true, false, true, true, true, true, true, true, true, false, false, true, false] (fun s_ => [(15, .int .i64 t339), (19, .int .i64 t341), (5, .pointer (some ⟨s_, 0, none⟩))]) (fun s_ w' => (w'.cell? ad338 = some (.string (rdOf ByteArray.empty t335 0)) ∧ w'.cell? ⟨ad338.block, ad338.off + 1, none⟩ = some (.string (rdOf ByteArray.empty t335 1)) ∧ w'.cell? ⟨ad338.block, ad338.off + 2, none⟩ = some (.string (rdOf ByteArray.empty t335 2)) ∧ w'.cell? ⟨ad338.block, ad338.off + 2, none⟩ = some (.string (rdOf ByteArray.empty t335 2)) ∧ w'.cell? ⟨ad338.block, ad338.off + 3, none⟩ = some (.string (rdOf ByteArray.empty t335 3)) ∧ w'.cell? ⟨ad338.block, ad338.off + 3, none⟩ = some (.string (rdOf ByteArray.empty t335 3))) ∧ (Kd.R Kd.string 9 w' w.heap.size (fun _ => True) (.slice (some ad338) t335.length co39) t335) ∧ (w'.heap[gb334]? = some (.cells #[.int .i64 0, .int .i64 0, .bool false, .slice none 0 0, .bool false, .slice none 0 0] 25 (0, 0))) ∧ (w'.heap[s_]? = some (.cells #[.int .i64 0, .int .i64 0, .bool false, .slice none 0 0, .bool false, .slice none 0 0] 25 (0, 0))) ∧ (w.heap.size ≤ s_) ∧ (w.heap.size ≤ s_) ∧ (gb334 ≠ s_) ∧ (s_ ≠ gb334) ∧ (Below w.heap.size w w')) ?_ ?_
           rotate_left
           ·intro hJ3_7_25
            refine join_ (σ := Unit) 5 #[true, true, true, true, true, true, true, true, true, true, true, true, true, true, true, false, true, true, true, true, true, true, true, false, false, false, false] (fun s_ => [(15, .int .i64 t339), (19, .int .i64 t341)]) (fun s_ w' => (w'.cell? ad338 = some (.string (rdOf ByteArray.empty t335 0)) ∧ w'.cell? ⟨ad338.block, ad338.off + 1, none⟩ = some (.string (rdOf ByteArray.empty t335 1)) ∧ w'.cell? ⟨ad338.block, ad338.off + 2, none⟩ = some (.string (rdOf ByteArray.empty t335 2)) ∧ w'.cell? ⟨ad338.block, ad338.off + 2, none⟩ = some (.string (rdOf ByteArray.empty t335 2)) ∧ w'.cell? ⟨ad338.block, ad338.off + 3, none⟩ = some (.string (rdOf ByteArray.empty t335 3)) ∧ w'.cell? ⟨ad338.block, ad338.off + 3, none⟩ = some (.string (rdOf ByteArray.empty t335 3))) ∧ (Kd.R Kd.string 9 w' w.heap.size (fun _ => True) (.slice (some ad338) t335.length co39) t335) ∧ (w'.heap[gb334]? = some (.cells #[.int .i64 0, .int .i64 0, .bool false, .slice none 0 0, .bool false, .slice none 0 0] 25 (0, 0))) ∧ (Below w.heap.size w w')) ?_ ?_
            rotate_left
            ·intro hJ3_7
             refine join_ (σ := Nat) 5 #[true, true, true, true, true, true, true, false, true, true, true, true, true, true, true, false, true, true, true, true, true, true, true, false, false, true, false] (fun s_ => [(15, .int .i64 t339), (5, .pointer (some ⟨s_, 0, none⟩))]) (fun s_ w' => (w'.cell? ad338 = some (.string (rdOf ByteArray.empty t335 0)) ∧ w'.cell? ⟨ad338.block, ad338.off + 1, none⟩ = some (.string (rdOf ByteArray.empty t335 1)) ∧ w'.cell? ⟨ad338.block, ad338.off + 2, none⟩ = some (.string (rdOf ByteArray.empty t335 2)) ∧ w'.cell? ⟨ad338.block, ad338.off + 2, none⟩ = some (.string (rdOf ByteArray.empty t335 2)) ∧ w'.cell? ⟨ad338.block, ad338.off + 3, none⟩ = some (.string (rdOf ByteArray.empty t335 3)) ∧ w'.cell? ⟨ad338.block, ad338.off + 3, none⟩ = some (.string (rdOf ByteArray.empty t335 3))) ∧ (Kd.R Kd.string 9 w' w.heap.size (fun _ => True) (.slice (some ad338) t335.length co39) t335) ∧ (w'.heap[gb334]? = some (.cells #[.int .i64 0, .int .i64 0, .bool false, .slice none 0 0, .bool false, .slice none 0 0] 25 (0, 0))) ∧ (w'.heap[s_]? = some (.cells #[.int .i64 0, .int .i64 0, .bool false, .slice none 0 0, .bool false, .slice none 0 0] 25 (0, 0))) ∧ (w.heap.size ≤ s_) ∧ (w.heap.size ≤ s_) ∧ (gb334 ≠ s_) ∧ (s_ ≠ gb334) ∧ (Below w.heap.size w w')) ?_ ?_
             rotate_left
             ·intro hJ3_25
              refine join_ (σ := Unit) 6 #[true, true, true, true, true, true, true, false, true, true, true, true, true, true, true, false, true, true, true, true, true, true, true, false, false, false, false] (fun s_ => [(15, .int .i64 t339)]) (fun s_ w' => (w'.cell? ad338 = some (.string (rdOf ByteArray.empty t335 0)) ∧ w'.cell? ⟨ad338.block, ad338.off + 1, none⟩ = some (.string (rdOf ByteArray.empty t335 1)) ∧ w'.cell? ⟨ad338.block, ad338.off + 2, none⟩ = some (.string (rdOf ByteArray.empty t335 2)) ∧ w'.cell? ⟨ad338.block, ad338.off + 2, none⟩ = some (.string (rdOf ByteArray.empty t335 2)) ∧ w'.cell? ⟨ad338.block, ad338.off + 3, none⟩ = some (.string (rdOf ByteArray.empty t335 3)) ∧ w'.cell? ⟨ad338.block, ad338.off + 3, none⟩ = some (.string (rdOf ByteArray.empty t335 3))) ∧ (Kd.R Kd.string 9 w' w.heap.size (fun _ => True) (.slice (some ad338) t335.length co39) t335) ∧ (w'.heap[gb334]? = some (.cells #[.int .i64 0, .int .i64 0, .bool false, .slice none 0 0, .bool false, .slice none 0 0] 25 (0, 0))) ∧ (Below w.heap.size w w')) ?_ ?_
              rotate_left
              ·intro hJ3
               refine join_ (σ := Nat) 6 #[true, true, true, false, true, true, true, false, true, true, true, true, true, true, true, false, true, true, true, true, true, true, true, false, false, true, false] (fun s_ => [(5, .pointer (some ⟨s_, 0, none⟩))]) (fun s_ w' => (w'.cell? ad338 = some (.string (rdOf ByteArray.empty t335 0)) ∧ w'.cell? ⟨ad338.block, ad338.off + 1, none⟩ = some (.string (rdOf ByteArray.empty t335 1)) ∧ w'.cell? ⟨ad338.block, ad338.off + 2, none⟩ = some (.string (rdOf ByteArray.empty t335 2)) ∧ w'.cell? ⟨ad338.block, ad338.off + 2, none⟩ = some (.string (rdOf ByteArray.empty t335 2)) ∧ w'.cell? ⟨ad338.block, ad338.off + 3, none⟩ = some (.string (rdOf ByteArray.empty t335 3)) ∧ w'.cell? ⟨ad338.block, ad338.off + 3, none⟩ = some (.string (rdOf ByteArray.empty t335 3))) ∧ (Kd.R Kd.string 9 w' w.heap.size (fun _ => True) (.slice (some ad338) t335.length co39) t335) ∧ (w'.heap[gb334]? = some (.cells #[.int .i64 0, .int .i64 0, .bool false, .slice none 0 0, .bool false, .slice none 0 0] 25 (0, 0))) ∧ (w'.heap[s_]? = some (.cells #[.int .i64 0, .int .i64 0, .bool false, .slice none 0 0, .bool false, .slice none 0 0] 25 (0, 0))) ∧ (w.heap.size ≤ s_) ∧ (w.heap.size ≤ s_) ∧ (gb334 ≠ s_) ∧ (s_ ≠ gb334) ∧ (Below w.heap.size w w')) ?_ ?_
               rotate_left
               ·intro hJ25
                refine two_ (i := 3) (j := 25) (Ni := some 15) (Nj := some 5) #[true, true, true, true, true, true, true, false, true, true, true, true, true, true, true, false, true, true, true, true, true, true, true, false, false, false, false] #[true, true, true, false, true, true, true, false, true, true, true, true, true, true, true, false, true, true, true, true, true, true, true, false, false, true, false] rfl rfl rfl rfl (two_of HT_.out (by kernel_rfl)) (by decide) (by decide) (fun K hK => ?_) (fun K hK => ?_)
                ·skip
                 refine goes_ Tryd.func43 (by kernel_rfl) rfl #[.string (rdOf ByteArray.empty t335 0)] (by rfl) rfl rfl tq ?_
                 with_reducible refine (spec_l41Number.calls k (rdOf ByteArray.empty t335 0) t339 _ A5.out).mono ?_
                 rintro e w' ⟨rfl, ⟨nd, rfl⟩⟩
                 refine ⟨_, rfl, ?_⟩
                 refine hK.out _ _ ⟨hHeld.1, hHeld.2.1, hHeld.2.2.1, hHeld.2.2.2.1, hHeld.2.2.2.2.1, hHeld.2.2.2.2.2⟩ (fun hHeld => ?_)
                 clear hK K
                 refine tnm (some 15) ?_
                 exact tnx (hJ3 () _ ⟨hHeld, (tR HO337.out), (tH BK334.out), zb⟩)
                ·skip
                 refine box_step ?hg (N := 5) ?hd (cs := #[.int .i64 0, .int .i64 0, .bool false, .slice none 0 0, .bool false, .slice none 0 0]) (t := 25) ?hr ?_; (case hd => rfl); (case hg => rfl); (case hr => first | (go_simp; done) | (go_simp; rfl))
                 intro gb352 hg w41 hbox hb
                 have HS0_ := tcb hb hHeld.1
                 have HS1_ := tcb hb hHeld.2.1
                 have HS2_ := tcb hb hHeld.2.2.1
                 have HS3_ := tcb hb hHeld.2.2.2.1
                 have HS4_ := tcb hb hHeld.2.2.2.2.1
                 have HS5_ := tcb hb hHeld.2.2.2.2.2
                 replace HO337 := tRb HO337 hb
                 have BK352 := Aside0.mk (hbox)
                 have GW352 := tge HB hg
                 have GE352 := tge HB hg
                 replace HB := tBs HB hb
                 have NB334_352 := tlt BK334 hg
                 have NB352_334 := tgt BK334 hg
                 replace BK334 := tBb BK334 hb
                 clear hb hbox hg
                 refine hK.out _ _ ⟨HS0_, HS1_, HS2_, HS3_, HS4_, HS5_⟩ (fun hHeld => ?_)
                 clear hK K
                 refine tnm (some 5) ?_
                 exact tnx (hJ25 (gb352) _ ⟨hHeld, (tR HO337.out), (tH BK334.out), (tH BK352.out), GW352.out, GE352.out, NB334_352.out, NB352_334.out, zb⟩)
               ·skip
                rintro gb352 w42 ⟨hS_, h0_, h1_, h2_, h3_, h4_, h5_, h6_, h7_⟩
                try dsimp only at hS_ h0_ h1_ h2_ h3_ h4_ h5_ h6_ h7_
                clear HO337 BK334 HB
                have HO337 := Aside0.mk h0_
                have BK334 := Aside0.mk h1_
                have BK352 := Aside0.mk h2_
                have GW352 := Aside0.mk h3_
                have GE352 := Aside0.mk h4_
                have NB334_352 := Aside0.mk h5_
                have NB352_334 := Aside0.mk h6_
                have HB := Aside0.mk h7_
                clear h0_ h1_ h2_ h3_ h4_ h5_ h6_ h7_
                have hHeld := hS_
                refine tnp ?_
                refine one_ (i := 3) (N := some 15) #[true, true, true, true, true, true, true, false, true, true, true, true, true, true, true, false, true, true, true, true, true, true, true, false, false, true, false] rfl rfl (one_of HT_.out (by kernel_rfl)) (by decide) (fun K hK => ?_)
                refine goes_ Tryd.func43 (by kernel_rfl) rfl #[.string (rdOf ByteArray.empty t335 0)] (by rfl) rfl rfl tq ?_
                with_reducible refine (spec_l41Number.calls k (rdOf ByteArray.empty t335 0) t339 _ A5.out).mono ?_
                rintro e w' ⟨rfl, ⟨nd, rfl⟩⟩
                refine ⟨_, rfl, ?_⟩
                refine hK.out _ _ ⟨hHeld.1, hHeld.2.1, hHeld.2.2.1, hHeld.2.2.2.1, hHeld.2.2.2.2.1, hHeld.2.2.2.2.2⟩ (fun hHeld => ?_)
                clear hK K
                refine tnm (some 15) ?_
                exact tnx (hJ3_25 (gb352) _ ⟨hHeld, (tR HO337.out), (tH BK334.out), (tH BK352.out), GW352.out, GE352.out, NB334_352.out, NB352_334.out, zb⟩)
              ·skip
               rintro _ w41 ⟨hS_, h0_, h1_, h2_⟩
               try dsimp only at hS_ h0_ h1_ h2_
               clear HO337 BK334 HB
               have HO337 := Aside0.mk h0_
               have BK334 := Aside0.mk h1_
               have HB := Aside0.mk h2_
               clear h0_ h1_ h2_
               have hHeld := hS_
               refine tnp ?_
               refine two_ (i := 7) (j := 25) (Ni := some 19) (Nj := some 5) #[true, true, true, true, true, true, true, true, true, true, true, true, true, true, true, false, true, true, true, true, true, true, true, false, false, false, false] #[true, true, true, true, true, true, true, false, true, true, true, true, true, true, true, false, true, true, true, true, true, true, true, false, false, true, false] rfl rfl rfl rfl (two_of HT_.out (by kernel_rfl)) (by decide) (by decide) (fun K hK => ?_) (fun K hK => ?_)
               ·skip
                refine goes_ Tryd.func43 (by kernel_rfl) rfl #[.string (rdOf ByteArray.empty t335 1)] (by rfl) rfl rfl tq ?_
                with_reducible refine (spec_l41Number.calls k (rdOf ByteArray.empty t335 1) t341 _ A7.out).mono ?_
                rintro e w' ⟨rfl, ⟨nd, rfl⟩⟩
                refine ⟨_, rfl, ?_⟩
                refine hK.out _ _ ⟨hHeld.1, hHeld.2.1, hHeld.2.2.1, hHeld.2.2.2.1, hHeld.2.2.2.2.1, hHeld.2.2.2.2.2⟩ (fun hHeld => ?_)
                clear hK K
                refine tnm (some 19) ?_
                exact tnx (hJ3_7 () _ ⟨hHeld, (tR HO337.out), (tH BK334.out), zb⟩)
               ·skip
                refine box_step ?hg (N := 5) ?hd (cs := #[.int .i64 0, .int .i64 0, .bool false, .slice none 0 0, .bool false, .slice none 0 0]) (t := 25) ?hr ?_; (case hd => rfl); (case hg => rfl); (case hr => first | (go_simp; done) | (go_simp; rfl))
                intro gb352 hg w42 hbox hb
                have HS0_ := tcb hb hHeld.1
                have HS1_ := tcb hb hHeld.2.1
                have HS2_ := tcb hb hHeld.2.2.1
                have HS3_ := tcb hb hHeld.2.2.2.1
                have HS4_ := tcb hb hHeld.2.2.2.2.1
                have HS5_ := tcb hb hHeld.2.2.2.2.2
                replace HO337 := tRb HO337 hb
                have BK352 := Aside0.mk (hbox)
                have GW352 := tge HB hg
                have GE352 := tge HB hg
                replace HB := tBs HB hb
                have NB334_352 := tlt BK334 hg
                have NB352_334 := tgt BK334 hg
                replace BK334 := tBb BK334 hb
                clear hb hbox hg
                refine hK.out _ _ ⟨HS0_, HS1_, HS2_, HS3_, HS4_, HS5_⟩ (fun hHeld => ?_)
                clear hK K
                refine tnm (some 5) ?_
                exact tnx (hJ3_25 (gb352) _ ⟨hHeld, (tR HO337.out), (tH BK334.out), (tH BK352.out), GW352.out, GE352.out, NB334_352.out, NB352_334.out, zb⟩)
             ·skip
              rintro gb352 w42 ⟨hS_, h0_, h1_, h2_, h3_, h4_, h5_, h6_, h7_⟩
              try dsimp only at hS_ h0_ h1_ h2_ h3_ h4_ h5_ h6_ h7_
              clear HO337 BK334 HB
              have HO337 := Aside0.mk h0_
              have BK334 := Aside0.mk h1_
              have BK352 := Aside0.mk h2_
              have GW352 := Aside0.mk h3_
              have GE352 := Aside0.mk h4_
              have NB334_352 := Aside0.mk h5_
              have NB352_334 := Aside0.mk h6_
              have HB := Aside0.mk h7_
              clear h0_ h1_ h2_ h3_ h4_ h5_ h6_ h7_
              have hHeld := hS_
              refine tnp ?_
              refine one_ (i := 7) (N := some 19) #[true, true, true, true, true, true, true, true, true, true, true, true, true, true, true, false, true, true, true, true, true, true, true, false, false, true, false] rfl rfl (one_of HT_.out (by kernel_rfl)) (by decide) (fun K hK => ?_)
              refine goes_ Tryd.func43 (by kernel_rfl) rfl #[.string (rdOf ByteArray.empty t335 1)] (by rfl) rfl rfl tq ?_
              with_reducible refine (spec_l41Number.calls k (rdOf ByteArray.empty t335 1) t341 _ A7.out).mono ?_
              rintro e w' ⟨rfl, ⟨nd, rfl⟩⟩
              refine ⟨_, rfl, ?_⟩
              refine hK.out _ _ ⟨hHeld.1, hHeld.2.1, hHeld.2.2.1, hHeld.2.2.2.1, hHeld.2.2.2.2.1, hHeld.2.2.2.2.2⟩ (fun hHeld => ?_)
              clear hK K
              refine tnm (some 19) ?_
              exact tnx (hJ3_7_25 (gb352) _ ⟨hHeld, (tR HO337.out), (tH BK334.out), (tH BK352.out), GW352.out, GE352.out, NB334_352.out, NB352_334.out, zb⟩)
            ·skip
             rintro _ w41 ⟨hS_, h0_, h1_, h2_⟩
             try dsimp only at hS_ h0_ h1_ h2_
             clear HO337 BK334 HB
             have HO337 := Aside0.mk h0_
             have BK334 := Aside0.mk h1_
             have HB := Aside0.mk h2_
             clear h0_ h1_ h2_
             have hHeld := hS_
             refine tnp ?_
             refine two_ (i := 15) (j := 25) (Ni := some 27) (Nj := some 5) #[true, true, true, true, true, true, true, true, true, true, true, true, true, true, true, true, true, true, true, true, true, true, true, false, false, false, false] #[true, true, true, true, true, true, true, true, true, true, true, true, true, true, true, false, true, true, true, true, true, true, true, false, false, true, false] rfl rfl rfl rfl (two_of HT_.out (by kernel_rfl)) (by decide) (by decide) (fun K hK => ?_) (fun K hK => ?_)
             ·skip
              refine goes_ Tryd.func44 (by kernel_rfl) rfl #[.string (rdOf ByteArray.empty t335 2)] (by rfl) rfl rfl tq ?_
              with_reducible refine (spec_l41Bytes.calls k (rdOf ByteArray.empty t335 2) t344 _ A9.out).mono ?_
              rintro e w42 ⟨v345, rfl, ho0, hb⟩
              have HS0_ := tcb hb hHeld.1
              have HS1_ := tcb hb hHeld.2.1
              have HS2_ := tcb hb hHeld.2.2.1
              have HS3_ := tcb hb hHeld.2.2.2.1
              have HS4_ := tcb hb hHeld.2.2.2.2.1
              have HS5_ := tcb hb hHeld.2.2.2.2.2
              refine ⟨_, rfl, ?_⟩
              replace HO337 := tRb HO337 hb
              have HO346 := tRl ho0 HB
              replace BK334 := tBb BK334 hb
              replace HB := tBs HB hb
              (try clear hb)
              (try clear hb2)
              (try clear hk)
              (try clear hi)
              (try clear ho0)
              refine hK.out _ _ ⟨HS0_, HS1_, HS2_, HS3_, HS4_, HS5_⟩ (fun hHeld => ?_)
              clear hK K
              refine tnm (some 27) ?_
              exact tnx (hJ3_7_15 (v345) _ ⟨hHeld, (tR HO337.out), (tR HO346.out), (tH BK334.out), zb⟩)
             ·skip
              refine box_step ?hg (N := 5) ?hd (cs := #[.int .i64 0, .int .i64 0, .bool false, .slice none 0 0, .bool false, .slice none 0 0]) (t := 25) ?hr ?_; (case hd => rfl); (case hg => rfl); (case hr => first | (go_simp; done) | (go_simp; rfl))
              intro gb352 hg w42 hbox hb
              have HS0_ := tcb hb hHeld.1
              have HS1_ := tcb hb hHeld.2.1
              have HS2_ := tcb hb hHeld.2.2.1
              have HS3_ := tcb hb hHeld.2.2.2.1
              have HS4_ := tcb hb hHeld.2.2.2.2.1
              have HS5_ := tcb hb hHeld.2.2.2.2.2
              replace HO337 := tRb HO337 hb
              have BK352 := Aside0.mk (hbox)
              have GW352 := tge HB hg
              have GE352 := tge HB hg
              replace HB := tBs HB hb
              have NB334_352 := tlt BK334 hg
              have NB352_334 := tgt BK334 hg
              replace BK334 := tBb BK334 hb
              clear hb hbox hg
              refine hK.out _ _ ⟨HS0_, HS1_, HS2_, HS3_, HS4_, HS5_⟩ (fun hHeld => ?_)
              clear hK K
              refine tnm (some 5) ?_
              exact tnx (hJ3_7_25 (gb352) _ ⟨hHeld, (tR HO337.out), (tH BK334.out), (tH BK352.out), GW352.out, GE352.out, NB334_352.out, NB352_334.out, zb⟩)
           ·skip
            rintro gb352 w42 ⟨hS_, h0_, h1_, h2_, h3_, h4_, h5_, h6_, h7_⟩
            try dsimp only at hS_ h0_ h1_ h2_ h3_ h4_ h5_ h6_ h7_
            clear HO337 BK334 HB
            have HO337 := Aside0.mk h0_
            have BK334 := Aside0.mk h1_
            have BK352 := Aside0.mk h2_
            have GW352 := Aside0.mk h3_
            have GE352 := Aside0.mk h4_
            have NB334_352 := Aside0.mk h5_
            have NB352_334 := Aside0.mk h6_
            have HB := Aside0.mk h7_
            clear h0_ h1_ h2_ h3_ h4_ h5_ h6_ h7_
            have hHeld := hS_
            refine tnp ?_
            refine one_ (i := 15) (N := some 27) #[true, true, true, true, true, true, true, true, true, true, true, true, true, true, true, true, true, true, true, true, true, true, true, false, false, true, false] rfl rfl (one_of HT_.out (by kernel_rfl)) (by decide) (fun K hK => ?_)
            refine goes_ Tryd.func44 (by kernel_rfl) rfl #[.string (rdOf ByteArray.empty t335 2)] (by rfl) rfl rfl tq ?_
            with_reducible refine (spec_l41Bytes.calls k (rdOf ByteArray.empty t335 2) t344 _ A9.out).mono ?_
            rintro e w43 ⟨v345, rfl, ho0, hb⟩
            have HS0_ := tcb hb hHeld.1
            have HS1_ := tcb hb hHeld.2.1
            have HS2_ := tcb hb hHeld.2.2.1
            have HS3_ := tcb hb hHeld.2.2.2.1
            have HS4_ := tcb hb hHeld.2.2.2.2.1
            have HS5_ := tcb hb hHeld.2.2.2.2.2
            refine ⟨_, rfl, ?_⟩
            replace HO337 := tRb HO337 hb
            have HO346 := tRl ho0 HB
            replace BK334 := tBb BK334 hb
            replace BK352 := tBb BK352 hb
            replace HB := tBs HB hb
            (try clear hb)
            (try clear hb2)
            (try clear hk)
            (try clear hi)
            (try clear ho0)
            refine hK.out _ _ ⟨HS0_, HS1_, HS2_, HS3_, HS4_, HS5_⟩ (fun hHeld => ?_)
            clear hK K
            refine tnm (some 27) ?_
            exact tnx (hJ3_7_15_25 (v345, gb352) _ ⟨hHeld, (tR HO337.out), (tR HO346.out), (tH BK334.out), (tH BK352.out), GW352.out, GE352.out, NB334_352.out, NB352_334.out, zb⟩)
          ·skip
           rintro v345 w42 ⟨hS_, h0_, h1_, h2_, h3_⟩
           try dsimp only at hS_ h0_ h1_ h2_ h3_
           clear HO337 BK334 HB
           have HO337 := Aside0.mk h0_
           have HO346 := Aside0.mk h1_
           have BK334 := Aside0.mk h2_
           have HB := Aside0.mk h3_
           clear h0_ h1_ h2_ h3_
           have hHeld := hS_
           refine tnp ?_
           refine two_ (i := 23) (j := 25) (Ni := some 35) (Nj := some 5) #[true, true, true, true, true, true, true, true, true, true, true, true, true, true, true, true, true, true, true, true, true, true, true, true, false, false, false] #[true, true, true, true, true, true, true, true, true, true, true, true, true, true, true, true, true, true, true, true, true, true, true, false, false, true, false] rfl rfl rfl rfl (two_of HT_.out (by kernel_rfl)) (by decide) (by decide) (fun K hK => ?_) (fun K hK => ?_)
           ·skip
            refine goes_ Tryd.func44 (by kernel_rfl) rfl #[.string (rdOf ByteArray.empty t335 3)] (by rfl) rfl rfl tq ?_
            with_reducible refine (spec_l41Bytes.calls k (rdOf ByteArray.empty t335 3) t349 _ A11.out).mono ?_
            rintro e w43 ⟨v350, rfl, ho0, hb⟩
            have HS0_ := tcb hb hHeld.1
            have HS1_ := tcb hb hHeld.2.1
            have HS2_ := tcb hb hHeld.2.2.1
            have HS3_ := tcb hb hHeld.2.2.2.1
            have HS4_ := tcb hb hHeld.2.2.2.2.1
            have HS5_ := tcb hb hHeld.2.2.2.2.2
            refine ⟨_, rfl, ?_⟩
            replace HO337 := tRb HO337 hb
            have HO351 := Aside0.mk (Kd.R_lower (Kd.R_new' ho0 (Kd.R_lt (tR HO346.out))) (below_size zb))
            replace HO346 := Aside0.mk (Kd.R_elder' (tR HO346.out) (Kd.R_base ho0) hb)
            replace BK334 := tBb BK334 hb
            replace HB := tBs HB hb
            (try clear hb)
            (try clear hb2)
            (try clear hk)
            (try clear hi)
            (try clear ho0)
            obtain ⟨Ao44, co44, eo44⟩ := Kd.R_slice HO351.out
            (first | subst eo44 | (injection eo44 with f1_ f2_ f3_; have f4_ := f1_.symm; have f5_ := f3_.symm; clear f1_ f2_ f3_; subst f4_; subst f5_))
            obtain ⟨Ao45, co45, eo45⟩ := Kd.R_slice HO346.out
            (first | subst eo45 | (injection eo45 with f1_ f2_ f3_; have f4_ := f1_.symm; have f5_ := f3_.symm; clear f1_ f2_ f3_; subst f4_; subst f5_))
            refine hK.out _ _ ⟨HS0_, HS1_, HS2_, HS3_, HS4_, HS5_⟩ (fun hHeld => ?_)
            clear hK K
            refine tnm (some 35) ?_
            refine tpu 24 (some 36) #[true, true, true, true, true, true, true, true, true, true, true, true, true, true, true, true, true, true, true, true, true, true, true, true, true, false, false] ?_
            exact tnx (hJ3_7_15_23 (.slice Ao45 t344.length co45, .slice Ao44 t349.length co44) _ ⟨hHeld, (tR HO337.out), (tRm HO346.out), (tRm HO351.out), (tH BK334.out), zb⟩)
           ·skip
            refine box_step ?hg (N := 5) ?hd (cs := #[.int .i64 0, .int .i64 0, .bool false, .slice none 0 0, .bool false, .slice none 0 0]) (t := 25) ?hr ?_; (case hd => rfl); (case hg => rfl); (case hr => first | (go_simp; done) | (go_simp; rfl))
            intro gb352 hg w43 hbox hb
            have HS0_ := tcb hb hHeld.1
            have HS1_ := tcb hb hHeld.2.1
            have HS2_ := tcb hb hHeld.2.2.1
            have HS3_ := tcb hb hHeld.2.2.2.1
            have HS4_ := tcb hb hHeld.2.2.2.2.1
            have HS5_ := tcb hb hHeld.2.2.2.2.2
            replace HO337 := tRb HO337 hb
            replace HO346 := tRb HO346 hb
            have BK352 := Aside0.mk (hbox)
            have GW352 := tge HB hg
            have GE352 := tge HB hg
            replace HB := tBs HB hb
            have NB334_352 := tlt BK334 hg
            have NB352_334 := tgt BK334 hg
            replace BK334 := tBb BK334 hb
            clear hb hbox hg
            refine hK.out _ _ ⟨HS0_, HS1_, HS2_, HS3_, HS4_, HS5_⟩ (fun hHeld => ?_)
            clear hK K
            refine tnm (some 5) ?_
            exact tnx (hJ3_7_15_25 (v345, gb352) _ ⟨hHeld, (tR HO337.out), (tR HO346.out), (tH BK334.out), (tH BK352.out), GW352.out, GE352.out, NB334_352.out, NB352_334.out, zb⟩)
         ·skip
          rintro ⟨v345, gb352⟩ w43 ⟨hS_, h0_, h1_, h2_, h3_, h4_, h5_, h6_, h7_, h8_⟩
          try dsimp only at hS_ h0_ h1_ h2_ h3_ h4_ h5_ h6_ h7_ h8_
          clear HO337 BK334 HB
          have HO337 := Aside0.mk h0_
          have HO346 := Aside0.mk h1_
          have BK334 := Aside0.mk h2_
          have BK352 := Aside0.mk h3_
          have GW352 := Aside0.mk h4_
          have GE352 := Aside0.mk h5_
          have NB334_352 := Aside0.mk h6_
          have NB352_334 := Aside0.mk h7_
          have HB := Aside0.mk h8_
          clear h0_ h1_ h2_ h3_ h4_ h5_ h6_ h7_ h8_
          have hHeld := hS_
          refine tnp ?_
          refine one_ (i := 23) (N := some 35) #[true, true, true, true, true, true, true, true, true, true, true, true, true, true, true, true, true, true, true, true, true, true, true, true, false, true, false] rfl rfl (one_of HT_.out (by kernel_rfl)) (by decide) (fun K hK => ?_)
          refine goes_ Tryd.func44 (by kernel_rfl) rfl #[.string (rdOf ByteArray.empty t335 3)] (by rfl) rfl rfl tq ?_
          with_reducible refine (spec_l41Bytes.calls k (rdOf ByteArray.empty t335 3) t349 _ A11.out).mono ?_
          rintro e w44 ⟨v350, rfl, ho0, hb⟩
          have HS0_ := tcb hb hHeld.1
          have HS1_ := tcb hb hHeld.2.1
          have HS2_ := tcb hb hHeld.2.2.1
          have HS3_ := tcb hb hHeld.2.2.2.1
          have HS4_ := tcb hb hHeld.2.2.2.2.1
          have HS5_ := tcb hb hHeld.2.2.2.2.2
          refine ⟨_, rfl, ?_⟩
          replace HO337 := tRb HO337 hb
          have HO351 := Aside0.mk (Kd.R_lower (Kd.R_new' ho0 (Kd.R_lt (tR HO346.out))) (below_size zb))
          replace HO346 := Aside0.mk (Kd.R_elder' (tR HO346.out) (Kd.R_base ho0) hb)
          replace BK334 := tBb BK334 hb
          replace BK352 := tBb BK352 hb
          replace HB := tBs HB hb
          (try clear hb)
          (try clear hb2)
          (try clear hk)
          (try clear hi)
          (try clear ho0)
          obtain ⟨Ao45, co45, eo45⟩ := Kd.R_slice HO351.out
          (first | subst eo45 | (injection eo45 with f1_ f2_ f3_; have f4_ := f1_.symm; have f5_ := f3_.symm; clear f1_ f2_ f3_; subst f4_; subst f5_))
          obtain ⟨Ao46, co46, eo46⟩ := Kd.R_slice HO346.out
          (first | subst eo46 | (injection eo46 with f1_ f2_ f3_; have f4_ := f1_.symm; have f5_ := f3_.symm; clear f1_ f2_ f3_; subst f4_; subst f5_))
          refine hK.out _ _ ⟨HS0_, HS1_, HS2_, HS3_, HS4_, HS5_⟩ (fun hHeld => ?_)
          clear hK K
          refine tnm (some 35) ?_
          refine tpu 24 (some 36) #[true, true, true, true, true, true, true, true, true, true, true, true, true, true, true, true, true, true, true, true, true, true, true, true, true, true, false] ?_
          exact tnx (hJ3_7_15_23_25 (.slice Ao46 t344.length co46, .slice Ao45 t349.length co45, gb352) _ ⟨hHeld, (tR HO337.out), (tRm HO346.out), (tRm HO351.out), (tH BK334.out), (tH BK352.out), GW352.out, GE352.out, NB334_352.out, NB352_334.out, zb⟩)
        ·skip
         rintro ⟨v345, v350⟩ w45 ⟨hS_, h0_, h1_, h2_, h3_, h4_⟩
         try dsimp only at hS_ h0_ h1_ h2_ h3_ h4_
         clear HO337 BK334 HB
         have HO337 := Aside0.mk h0_
         have HO346 := Aside0.mk h1_
         have HO351 := Aside0.mk h2_
         have BK334 := Aside0.mk h3_
         have HB := Aside0.mk h4_
         clear h0_ h1_ h2_ h3_ h4_
         have hHeld := hS_
         obtain ⟨Ao46, co46, eo46⟩ := Kd.R_slice HO351.out
         (first | subst eo46 | (injection eo46 with f1_ f2_ f3_; have f4_ := f1_.symm; have f5_ := f3_.symm; clear f1_ f2_ f3_; subst f4_; subst f5_))
         obtain ⟨Ao47, co47, eo47⟩ := Kd.R_slice HO346.out
         (first | subst eo47 | (injection eo47 with f1_ f2_ f3_; have f4_ := f1_.symm; have f5_ := f3_.symm; clear f1_ f2_ f3_; subst f4_; subst f5_))
         refine tnp ?_
         refine one_ (i := 25) (N := some 5) #[true, true, true, true, true, true, true, true, true, true, true, true, true, true, true, true, true, true, true, true, true, true, true, true, true, true, false] rfl rfl (one_of HT_.out (by kernel_rfl)) (by decide) (fun K hK => ?_)
         refine box_step ?hg (N := 5) ?hd (cs := #[.int .i64 0, .int .i64 0, .bool false, .slice none 0 0, .bool false, .slice none 0 0]) (t := 25) ?hr ?_; (case hd => rfl); (case hg => rfl); (case hr => first | (go_simp; done) | (go_simp; rfl))
         intro gb352 hg w48 hbox hb
         have HS0_ := tcb hb hHeld.1
         have HS1_ := tcb hb hHeld.2.1
         have HS2_ := tcb hb hHeld.2.2.1
         have HS3_ := tcb hb hHeld.2.2.2.1
         have HS4_ := tcb hb hHeld.2.2.2.2.1
         have HS5_ := tcb hb hHeld.2.2.2.2.2
         replace HO337 := tRb HO337 hb
         replace HO346 := tRb HO346 hb
         replace HO351 := tRb HO351 hb
         have BK352 := Aside0.mk (hbox)
         have GW352 := tge HB hg
         have GE352 := tge HB hg
         replace HB := tBs HB hb
         have NB334_352 := tlt BK334 hg
         have NB352_334 := tgt BK334 hg
         replace BK334 := tBb BK334 hb
         clear hb hbox hg
         refine hK.out _ _ ⟨HS0_, HS1_, HS2_, HS3_, HS4_, HS5_⟩ (fun hHeld => ?_)
         clear hK K
         refine tnm (some 5) ?_
         exact tnx (hJ3_7_15_23_25 (.slice Ao47 t344.length co47, .slice Ao46 t349.length co46, gb352) _ ⟨hHeld, (tR HO337.out), (tR HO346.out), (tR HO351.out), (tH BK334.out), (tH BK352.out), GW352.out, GE352.out, NB334_352.out, NB352_334.out, zb⟩)
       rintro ⟨v345, v350, gb352⟩ w46 ⟨hS_, h0_, h1_, h2_, h3_, h4_, h5_, h6_, h7_, h8_, h9_⟩
       try dsimp only at hS_ h0_ h1_ h2_ h3_ h4_ h5_ h6_ h7_ h8_ h9_
       clear HO337 BK334 HB
       have HO337 := Aside0.mk h0_
       have HO346 := Aside0.mk h1_
       have HO351 := Aside0.mk h2_
       have BK334 := Aside0.mk h3_
       have BK352 := Aside0.mk h4_
       have GW352 := Aside0.mk h5_
       have GE352 := Aside0.mk h6_
       have NB334_352 := Aside0.mk h7_
       have NB352_334 := Aside0.mk h8_
       have HB := Aside0.mk h9_
       clear h0_ h1_ h2_ h3_ h4_ h5_ h6_ h7_ h8_ h9_
       have hHeld := hS_
       obtain ⟨Ao47, co47, eo47⟩ := Kd.R_slice HO351.out
       (first | subst eo47 | (injection eo47 with f1_ f2_ f3_; have f4_ := f1_.symm; have f5_ := f3_.symm; clear f1_ f2_ f3_; subst f4_; subst f5_))
       obtain ⟨Ao48, co48, eo48⟩ := Kd.R_slice HO346.out
       (first | subst eo48 | (injection eo48 with f1_ f2_ f3_; have f4_ := f1_.symm; have f5_ := f3_.symm; clear f1_ f2_ f3_; subst f4_; subst f5_))
       refine tnp ?_
       refine one_ (i := 26) (N := none) #[true, true, true, true, true, true, true, true, true, true, true, true, true, true, true, true, true, true, true, true, true, true, true, true, true, true, true] rfl rfl (one_of HT_.out (by kernel_rfl)) (by decide) (fun K hK => ?_)
       have hs49 : w46.cell? ⟨gb352, 0, none⟩ = some (.int .i64 0) := (blk_cell BK352.out 0).trans rfl
       have hfs49 := blk_frozen BK352.out 0
       have hns49_0 := NB334_352.out
       have hms49_0 := NB352_334.out
       have hs50 : w46.cell? ⟨gb352, 1, none⟩ = some (.int .i64 0) := (blk_cell BK352.out 1).trans rfl
       have hfs50 := blk_frozen BK352.out 1
       have hs51 : w46.cell? ⟨gb352, 2, none⟩ = some (.bool false) := (blk_cell BK352.out 2).trans rfl
       have hfs51 := blk_frozen BK352.out 2
       have hs52 : w46.cell? ⟨gb352, 3, none⟩ = some (.slice none 0 0) := (blk_cell BK352.out 3).trans rfl
       have hfs52 := blk_frozen BK352.out 3
       have hs53 : w46.cell? ⟨gb352, 4, none⟩ = some (.bool false) := (blk_cell BK352.out 4).trans rfl
       have hfs53 := blk_frozen BK352.out 4
       have hs54 : w46.cell? ⟨gb352, 5, none⟩ = some (.slice none 0 0) := (blk_cell BK352.out 5).trans rfl
       have hfs54 := blk_frozen BK352.out 5
       refine tsk ?_
       refine hK.out _ _ ⟨(tcg (Kd.own_blk (Kd.R_ne HO337.out BK352.out (by decide))) hHeld.1), (tcg (Kd.own_blk (Kd.R_ne HO337.out BK352.out (by decide))) hHeld.2.1), (tcg (Kd.own_blk (Kd.R_ne HO337.out BK352.out (by decide))) hHeld.2.2.1), (tcg (Kd.own_blk (Kd.R_ne HO337.out BK352.out (by decide))) hHeld.2.2.2.1), (tcg (Kd.own_blk (Kd.R_ne HO337.out BK352.out (by decide))) hHeld.2.2.2.2.1), (tcg (Kd.own_blk (Kd.R_ne HO337.out BK352.out (by decide))) hHeld.2.2.2.2.2)⟩ (fun hHeld => ?_)
       clear hK K
       refine done_ (done_of HT_.out (by kernel_rfl)) ?_
       have hnb55 := NB352_334.out
       have hnc55 := NB334_352.out
       obtain ⟨hcz56_0, hcz56_1, hcz56_2, hcz56_3, hcz56_4, hcz56_5, hfz56_0, hfz56_1, hfz56_2, hfz56_3, hfz56_4, hfz56_5⟩ := cells6 BK352.out
       try go_wp2_with (first | ((with_reducible refine gate_callee (f := 14) rfl ?_); refine goesL_ (some 38) rfl rfl Tryd.func14 (by kernel_rfl) rfl #[.agg #[.int .i64 t339, .int .i64 t341, .bool ((rdOf ByteArray.empty t335 2).toList != ([45] : List UInt8)), .slice Ao48 t344.length co48, .bool ((rdOf ByteArray.empty t335 3).toList != ([45] : List UInt8)), .slice Ao47 t349.length co47]] rfl tq ?_; (with_reducible refine (spec_RecordText.calls k t339 t341 ((rdOf ByteArray.empty t335 2).toList != ([45] : List UInt8)) _ _ t344 ((rdOf ByteArray.empty t335 3).toList != ([45] : List UInt8)) _ _ t349 t353 _ ?side1 ?side2 ?side3 ?side4 A12.out).mono ?_); (case side1 => refine (Kd.R_reads' (e := 3) (base := w.heap.size) (ok := fun k_ => some k_ ≠ (.slice Ao47 t349.length co47 : Value).ownBlock) (n := t344.length) (c := co48) ?_).2.2; exact (tRt HO346.out BK352.out)); (case side2 => exact (Kd.R_reads' HO346.out).2.1); (case side3 => refine (Kd.R_reads' (e := 3) (base := w.heap.size) (ok := fun k_ => some k_ ≠ (.slice Ao48 t344.length co48 : Value).ownBlock) (n := t349.length) (c := co47) ?_).2.2; exact (tRt HO351.out BK352.out)); (case side4 => exact (Kd.R_reads' HO351.out).2.1); rintro e w57 ⟨rfl, hb⟩; refine ⟨_, rfl, ?_⟩; replace HO337 := Aside0.mk (Kd.R_below (tRt HO337.out BK352.out) hb); replace HO346 := Aside0.mk (Kd.R_below (tRt HO346.out BK352.out) hb); replace HO351 := Aside0.mk (Kd.R_below (tRt HO351.out BK352.out) hb); replace BK334 := tBb BK334 hb; replace BK352 := Aside0.mk (blk_below (g := gb352) (o := .cells #[.int .i64 t339, .int .i64 t341, .bool ((rdOf ByteArray.empty t335 2).toList != ([45] : List UInt8)), .slice Ao48 t344.length co48, .bool ((rdOf ByteArray.empty t335 3).toList != ([45] : List UInt8)), .slice Ao47 t349.length co47] 25 (0, 0)) (by (with_reducible repeat (first | refine blk_drewN ?_ _ | refine blk_drew ?_ | refine blk_alloc ?_ _)); refine blk_put (cs := #[.int .i64 t339, .int .i64 t341, .bool ((rdOf ByteArray.empty t335 2).toList != ([45] : List UInt8)), .slice Ao48 t344.length co48, .bool ((rdOf ByteArray.empty t335 3).toList != ([45] : List UInt8)), .slice none 0 0]) ?_ 5 _ rfl; (with_reducible repeat (first | refine blk_drewN ?_ _ | refine blk_drew ?_ | refine blk_alloc ?_ _)); refine blk_put (cs := #[.int .i64 t339, .int .i64 t341, .bool ((rdOf ByteArray.empty t335 2).toList != ([45] : List UInt8)), .slice Ao48 t344.length co48, .bool false, .slice none 0 0]) ?_ 4 _ rfl; (with_reducible repeat (first | refine blk_drewN ?_ _ | refine blk_drew ?_ | refine blk_alloc ?_ _)); refine blk_put (cs := #[.int .i64 t339, .int .i64 t341, .bool ((rdOf ByteArray.empty t335 2).toList != ([45] : List UInt8)), .slice none 0 0, .bool false, .slice none 0 0]) ?_ 3 _ rfl; exact tP BK352.out) hb); replace HB := tBs HB hb; (try clear hb); (try clear hb2); (try clear hk); (try clear hi); obtain ⟨hcz58_0, hcz58_1, hcz58_2, hcz58_3, hcz58_4, hcz58_5, hfz58_0, hfz58_1, hfz58_2, hfz58_3, hfz58_4, hfz58_5⟩ := cells6 BK334.out))
       refine bodyPost_ret (results_ct rfl _ _ gb334 25 #[.int .i64 0, .int .i64 0, .bool false, .slice none 0 0, .bool false, .slice none 0 0] (0, 0) _ rfl (tP BK334.out) Tryd.underlying25 rfl (by kernel_rfl)) rfl ?_
       exact ⟨_, _, by first | rfl | (simp [errW_none, errW_some] <;> rfl) | (simp [*, errW_none, errW_some] <;> rfl), by first | exact Kd.R_nil _ _ _ _ _ | exact Kd.N_nil _ _ _ _ _ | exact Kd.V_nil _ _ _ _ _ | exact Kd.Q_nil _ _ _ _ _ | exact Kd.S_nil _ _ _ _ _, by first | exact Kd.R_nil _ _ _ _ _ | exact Kd.N_nil _ _ _ _ _ | exact Kd.V_nil _ _ _ _ _ | exact Kd.Q_nil _ _ _ _ _ | exact Kd.S_nil _ _ _ _ _, zb⟩
     ·rw [if_neg c10] at H
      exact absurd H (by simp)
    ·rw [if_neg c8] at H
     exact absurd H (by simp)
   ·rw [if_neg c6] at H
    exact absurd H (by simp)
  ·rw [if_neg c4] at H
   exact absurd H (by simp)
 ·rw [if_neg c3] at H
  have c3b0 : ((t335.length : Int) == 4) = false := beq_eq_false_iff_ne.mpr c3
  have c3b1 : ((t335.length : Int) != 4) = true := bne_iff_ne.mpr c3
  simp only [Option.some.injEq, Prod.mk.injEq] at H
  obtain ⟨rfl, rfl, rfl, rfl, rfl, rfl, rfl⟩ := H
  go_enter Tryd.func18, Tryd.ntmps18
  go_wp2_with (first | ((with_reducible refine gate_dst (N := 2) rfl ?_); refine box_event ?hg (N := 2) ?hd (cs := #[.int .i64 0, .int .i64 0, .bool false, .slice none 0 0, .bool false, .slice none 0 0]) (t := 25) ?hr ?_; (case hd => rfl); (case hg => rfl); (case hr => first | (go_simp; done) | (go_simp; rfl)); intro gb334 hg w59 hbox hb; have BK334 := Aside0.mk (hbox); have GW334 := tge HB hg; have GE334 := tge HB hg; replace HB := tBs HB hb; clear hb hbox hg) | ((with_reducible refine gate_callee (f := 42) rfl ?_); refine goesL_ (some 7) rfl rfl Tryd.func42 (by kernel_rfl) rfl #[.string a0] rfl tq ?_; (with_reducible refine (spec_l41Cut.calls k a0 t335 _ A2.out).mono ?_); rintro e w60 ⟨v336, rfl, ho0, hb⟩; have u_v336 := tsv Tryd.prog v336 ho0; refine ⟨_, rfl, ?_⟩; have HO337 := tRl ho0 HB; replace BK334 := tBb BK334 hb; replace HB := tBs HB hb; (try clear hb); (try clear hb2); (try clear hk); (try clear hi); (try clear ho0); obtain ⟨Ao61, co61, eo61⟩ := Kd.R_slice HO337.out; subst eo61; obtain ⟨hcz62_0, hcz62_1, hcz62_2, hcz62_3, hcz62_4, hcz62_5, hfz62_0, hfz62_1, hfz62_2, hfz62_3, hfz62_4, hfz62_5⟩ := cells6 BK334.out))
  refine bodyPost_ret (results_ct rfl _ _ gb334 25 #[.int .i64 0, .int .i64 0, .bool false, .slice none 0 0, .bool false, .slice none 0 0] (0, 0) _ rfl (tP BK334.out) Tryd.underlying25 rfl (by kernel_rfl)) rfl ?_
  exact ⟨_, _, by first | rfl | (simp [errW_none, errW_some] <;> rfl) | (simp [*, errW_none, errW_some] <;> rfl), by first | exact Kd.R_nil _ _ _ _ _ | exact Kd.N_nil _ _ _ _ _ | exact Kd.V_nil _ _ _ _ _ | exact Kd.Q_nil _ _ _ _ _ | exact Kd.S_nil _ _ _ _ _, by first | exact Kd.R_nil _ _ _ _ _ | exact Kd.N_nil _ _ _ _ _ | exact Kd.V_nil _ _ _ _ _ | exact Kd.Q_nil _ _ _ _ _ | exact Kd.S_nil _ _ _ _ _, zb⟩

end Go.Proofs.YteoicjlhkaljbaaDoor.G

