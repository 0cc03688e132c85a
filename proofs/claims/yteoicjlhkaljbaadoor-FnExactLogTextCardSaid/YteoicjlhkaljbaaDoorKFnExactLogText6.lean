/- A text of seat YteoicjlhkaljbaaDoor: what the law FnExactLogText needs of this repo's texts (by pack.py). Not trusted: Lean checks it. -/
import Derived.Test.YteoicjlhkaljbaaDoorKFnExactLogText5
import Derived.OwnWalkIn
namespace Go.Proofs.YteoicjlhkaljbaaDoor.G
open Go.RowKit Go.Proofs.YteoicjlhkaljbaaDoorW.PrintWords Go.Proofs.YteoicjlhkaljbaaDoorW.PrintLast Go.Proofs.YteoicjlhkaljbaaDoorW.PrintMore
set_option linter.unusedVariables false
set_option linter.unusedSimpArgs false
/-- The text of bytes; nothing if a number is none. -/
def hexT (l : List Int) : ByteArray := if l.all Pu.isB = true then ⟨(Pu.hexOf l).toArray⟩ else ⟨#[]⟩
def impl_BytesText.f (l : List Int) : Option ByteArray := if l.length ≤ 1000000 then some (hexT l) else none
theorem dig_get (n : Nat) (h : n < (ByteArray.mk #[48, 49, 50, 51, 52, 53, 54, 55, 56, 57, 97, 98, 99, 100, 101, 102]).size) : (ByteArray.mk #[48, 49, 50, 51, 52, 53, 54, 55, 56, 57, 97, 98, 99, 100, 101, 102])[n]'h = Pu.hx n := by
  have : ∀ i : Fin 16, (ByteArray.mk #[48, 49, 50, 51, 52, 53, 54, 55, 56, 57, 97, 98, 99, 100, 101, 102])[i.val]'i.isLt = Pu.hx i.val := by decide
  exact this ⟨n, h⟩
set_option maxRecDepth 100000 in
set_option maxHeartbeats 4000000 in
theorem impl_BytesText.calls (A0 : Option Addr) (c0 : Nat) (l0 : List Int) (r : ByteArray) (w : World) (hr0 : Kd.C (Kd.int .i64) w A0 l0.length l0) (hc0 : l0.length ≤ c0) (h : impl_BytesText.f l0 = some r) :
    Calls Tryd.prog 92 #[.slice A0 l0.length c0] w fun e w' => e = .returned (.string r) ∧ Below w.heap.size w w' := by
  unfold impl_BytesText.f at h
  by_cases hl : l0.length ≤ 1000000
  case neg => rw [if_neg hl] at h; exact absurd h (by simp)
  rw [if_pos hl] at h
  obtain rfl := Option.some.inj h
  clear h
  obtain ⟨K, hK⟩ := Pu.allBytes_ev l0 (by omega)
  have hK := hK K (Nat.le_refl _)
  have HR := Aside0.mk hr0
  clear hr0
  unfold hexT
  have HA := Aside0.mk hK
  by_cases ha : l0.all Pu.isB = true
  · rw [if_pos ha]
    rw [ha] at HA
    have HB := Aside0.mk ha
    clear ha hK
    go_enter Tryd.func92, Tryd.ntmps92
    go_wp2_with (go_at_call 79; refine (impl_allBytes.calls K A0 c0 l0 true _ HR.out hc0 HA.out).mono ?_; rintro e w1 ⟨rfl, hw1⟩; have HW1 := Aside0.mk hw1.below; clear hw1)
    have bB := Aside0.mk (Bld.new w1)
    have bz := below_alloc HW1.out (.cells #[.pointer none, .slice none 0 0] 79)
    have hz1 := HW1.out.size
    generalize hws : w1.heap.size = b at *
    go_loopw [11] (fun p wr => ∃ i : Nat, p = .int .i64 i ∧ i ≤ l0.length ∧ Aside0 (Bld b b (Pu.hexOf (l0.take i)) wr) ∧ Aside0 (Below w.heap.size w wr) ∧ b ≤ wr.heap.size) (fun i _ => l0.length - (intOf i).toNat)
    case atStart => exact ⟨0, rfl, Nat.zero_le _, ⟨bB.out⟩, ⟨bz⟩, by simp; omega⟩
    case round =>
      obtain ⟨i, rfl, hi, hI, hBw, hsz⟩ := hrel
      by_cases hlt : i < l0.length
      · obtain ⟨ad, e, hx⟩ := Kd.at_int HR.out (i : Int) (by omega) (by omega)
        cases e
        have hx2 := pw_cell_below hBw.out hx
        clear hx
        obtain ⟨h0, h1⟩ := (Pu.isB_iff _).1 (List.all_eq_true.1 HB.out _ (List.getElem_mem hlt))
        rw [show ((i : Int)).toNat = i from rfl, Pu.rdi_nat l0 i hlt] at hx2
        have hsn := Aside0.mk (Pu.hexOf_snoc (l0.take i) l0[i])
        have htk := Aside0.mk (List.take_succ_eq_append_getElem hlt)
        have hlen := Pu.hexOf_len (l0.take i)
        rw [List.length_take] at hlen
        generalize l0[i] = x at *
        have e15 := Pu.i64_and15 x
        have d0 : 0 ≤ x / 16 := by omega
        have d1 : x / 16 < 16 := by omega
        have d2 : 0 ≤ x % 16 := by omega
        have d3 : x % 16 < 16 := by omega
        go_wp2_with fail
        refine (wByte_calls b b _ _ _ hI.out (by omega) hsz).mono ?_
        rintro e W2 ⟨rfl, hI2, hb2, _⟩
        rw [dig_get] at hI2
        have HI2 := Aside0.mk hI2
        have hBw2 := Aside0.mk (hBw.out.trans (hb2.mono hz1))
        have hsz2 := Nat.le_trans hsz hb2.size
        clear hI2 hb2 hx2
        go_wp2_with fail
        refine (wByte_calls b b _ _ _ HI2.out (by simp only [List.length_append, List.length_singleton]; omega) hsz2).mono ?_
        rintro e W3 ⟨rfl, hI3, hb3, _⟩
        rw [dig_get] at hI3
        have HI3 := Aside0.mk hI3
        have hBw3 := Aside0.mk (hBw2.out.trans (hb3.mono hz1))
        have hsz3 := Nat.le_trans hsz2 hb3.size
        clear hI3 hb3
        go_wp2
        go_roundw
        case rel =>
          refine ⟨i + 1, by simp, by omega, ⟨?_⟩, ⟨hBw3.out⟩, hsz3⟩
          have h3 := HI3.out
          rw [htk.out, hsn.out]
          rw [List.append_assoc, show (x / 16).toNat = x.toNat / 16 by omega, show (x % 16).toNat = x.toNat % 16 by omega] at h3
          exact h3
        case measure => simp [intOf]; omega
      · obtain rfl : i = l0.length := by omega
        have hI' := hI.out
        rw [List.take_length] at hI'
        go_wp2_with fail
        refine (bStr_calls b b _ _ hI' hsz).mono ?_
        rintro e W2 ⟨rfl, hI2, hb2, _⟩
        go_wp2
        go_ret
        exact ⟨rfl, hBw.out.trans (hb2.mono hz1)⟩
  · rw [if_neg ha]
    have ha' : l0.all Pu.isB = false := by simpa using ha
    rw [ha'] at HA
    clear ha ha' hK
    go_enter Tryd.func92, Tryd.ntmps92
    go_wp2_with (go_at_call 79; refine (impl_allBytes.calls K A0 c0 l0 false _ HR.out hc0 HA.out).mono ?_; rintro e w1 ⟨rfl, hw1⟩; have HW1 := Aside0.mk hw1.below; clear hw1)
    go_ret
    exact ⟨rfl, HW1.out⟩
end Go.Proofs.YteoicjlhkaljbaaDoor.G

namespace Go.Proofs.YteoicjlhkaljbaaDoor.G
open Go.RowKit Go.Sort Go.Proofs.YteoicjlhkaljbaaDoorW.PrintWords Go.Proofs.YteoicjlhkaljbaaDoorW.PrintLast Go.Proofs.YteoicjlhkaljbaaDoorW.PrintMore
set_option linter.unusedVariables false
theorem dec_lib (n : Nat) : Lib.decDigits n = Pu.dec n := by
  induction n using Nat.strongRecOn with
  | ind n ih =>
    unfold Lib.decDigits Pu.dec
    by_cases h : n < 10
    · rw [dif_pos h, dif_pos h]
    · rw [dif_neg h, dif_neg h, ih (n / 10) (by omega)]
def strconv_Itoa_67.f (n : Int) : Option ByteArray := if 0 ≤ n ∧ n ≤ 1000000 then some ⟨(Pu.dec n.toNat).toArray⟩ else none
theorem below_growN (w : World) (k : Nat) (os : Array Obj) : Below w.heap.size w (grow (w.drewN k) os) :=
  ⟨rfl, rfl, rfl, by show w.heap.size ≤ (w.heap ++ os).size; rw [Array.size_append]; omega, fun j hj => by show (w.heap ++ os)[j]? = w.heap[j]?; rw [Array.getElem?_append_left hj]⟩
theorem strconv_Itoa_67.calls [ErrA] (a0 : Int) (r : ByteArray) (w : World) (hE : ErrOk [1] w) (h : strconv_Itoa_67.f a0 = some r) :
    Calls Tryd.prog 67 #[.int .i64 a0] w fun e w' => e = .returned (.string r) ∧ Below w.heap.size w w' := by
  unfold strconv_Itoa_67.f at h
  by_cases hn : 0 ≤ a0 ∧ a0 ≤ 1000000
  case neg => rw [if_neg hn] at h; exact absurd h (by simp)
  rw [if_pos hn] at h
  obtain rfl := Option.some.inj h
  refine (Tryd.strconv_Itoa a0 (by omega) (by omega) w (hE.1 (by decide))).mono fun e w' ⟨he, k, os, hw⟩ => ⟨?_, hw ▸ below_growN w k os⟩
  rw [he, Lib.itoa, if_neg (by omega), dec_lib]
end Go.Proofs.YteoicjlhkaljbaaDoor.G

namespace Go.Proofs.YteoicjlhkaljbaaDoor.G
open Go.RowKit Go.Proofs.YteoicjlhkaljbaaDoorW.PrintWords Go.Proofs.YteoicjlhkaljbaaDoorW.PrintLast Go.Proofs.YteoicjlhkaljbaaDoorW.PrintMore
attribute [local go_sem] max2_int min2_int max_two min_two max_three min_three max_four min_four   -- for this text's walks alone
set_option linter.unusedVariables false
set_option linter.unusedSimpArgs false

def impl_partText.f (a0 : Bool) (l1 : List Int) : Option (ByteArray) := if a0 = true then ((impl_BytesText.f l1).bind fun t204 => (if 1 + t204.size ≤ 9223372036854775807 then (some ((⟨#[120]⟩ : ByteArray) ++ t204)) else (none))) else (some (⟨#[45]⟩ : ByteArray))
set_option maxHeartbeats 8000000 in
set_option maxRecDepth 100000 in
theorem impl_partText.calls (a0 : Bool) (A1 : Option Addr) (c1 : Nat) (l1 : List Int) (r : ByteArray) (w : World) (hr1 : Kd.C (Kd.int .i64) w A1 l1.length l1) (hc1 : l1.length ≤ c1) (h : impl_partText.f a0 l1 = some r) :
  Calls Tryd.prog 68 #[.bool a0, .slice A1 l1.length c1] w fun e w' => e = .returned (.string r) ∧ Below w.heap.size w w' := by
 have HR1 := Aside0.mk hr1
 have HC1 := Aside0.mk hc1
 clear hr1 hc1
 have HB := Aside0.mk (Below.refl w.heap.size w)
 have H : (if a0 = true then ((impl_BytesText.f l1).bind fun t204 => (if 1 + t204.size ≤ 9223372036854775807 then (some ((⟨#[120]⟩ : ByteArray) ++ t204)) else (none))) else (some (⟨#[45]⟩ : ByteArray))) = some r := h
 clear h
 by_cases c3 : a0 = true
 ·subst c3
  rw [if_pos rfl] at H
  replace H := tbe H
  obtain ⟨t204, A4, H⟩ := H
  by_cases c5 : 1 + t204.size ≤ 9223372036854775807
  ·rw [if_pos c5] at H
   have c5b0 := eq_true c5
   have c5b1 : decide (1 + t204.size ≤ 9223372036854775807) = true := decide_eq_true c5
   try have c5b2 : (9223372036854775807 < 1 + t204.size) = False := eq_false (Nat.not_lt.2 c5)
   obtain rfl := Option.some.inj H
   go_enter Tryd.func68, Tryd.ntmps68
   go_wp2_with (first | ((with_reducible refine gate_callee (f := 92) rfl ?_); refine goesL_ (some 8) rfl rfl Tryd.func92 (by kernel_rfl) rfl #[.slice A1 l1.length c1] rfl tq ?_; (with_reducible refine (impl_BytesText.calls _ _ l1 t204 _ ?side1 ?side2 A4.out).mono ?_); (case side1 => exact tC HR1.out); (case side2 => exact HC1.out); rintro e w6 ⟨rfl, hb⟩; refine ⟨_, rfl, ?_⟩; replace HB := tBs HB hb; (try clear hb); (try clear hb2); (try clear hk); (try clear hi)))
   go_ret
   exact ⟨by first | rfl | (simp [errW_none, errW_some] <;> rfl) | (simp [*, errW_none, errW_some] <;> rfl), zb⟩
  ·rw [if_neg c5] at H
   exact absurd H (by simp)
 ·replace c3 := Bool.eq_false_iff.mpr c3
  subst c3
  rw [if_neg (show ¬ (false = true) by decide)] at H
  obtain rfl := Option.some.inj H
  go_enter Tryd.func68, Tryd.ntmps68
  go_wp2
  go_ret
  exact ⟨by first | rfl | (simp [errW_none, errW_some] <;> rfl) | (simp [*, errW_none, errW_some] <;> rfl), zb⟩

def impl_recordWords.f (a0_0 : Int) (a0_1 : Int) (a0_2 : Bool) (l0_3 : List Int) (a0_4 : Bool) (l0_5 : List Int) : Option (List ByteArray) := (strconv_Itoa_67.f a0_0).bind fun t206 => ((strconv_Itoa_67.f a0_1).bind fun t207 => ((impl_partText.f a0_2 l0_3).bind fun t208 => ((impl_partText.f a0_4 l0_5).bind fun t209 => (some (([t206, t207, t208, t209] : List ByteArray))))))
def impl_recordWords.T1 : Bool × List (List Nat × List Nat) := (true, [([], []), ([0], [0]), ([1], [1]), ([], []), ([3], [3]), ([4, 2], [4]), ([], []), ([6], [6]), ([], []), ([8], [8]), ([7, 9, 5], [7, 9]), ([], []), ([11], [11]), ([], []), ([13], [13]), ([12, 14, 10], [12, 14]), ([2, 5, 10, 15], [2, 5, 10, 15]), ([16, 15, 0, 1, 2, 3, 4, 5, 6, 7, 8, 9, 10, 11, 12, 13, 14, 15, 16], [16])])
def impl_recordWords.B1 : List Nat := [0, 1, 3, 0, 8, 31, 0, 64, 0, 256, 1023, 0, 2048, 0, 8192, 32767, 65535, 131071]
theorem impl_recordWords.tab1 : rtab .any (opsOf Tryd.f35 1) = impl_recordWords.T1 := by kernel_rfl
theorem impl_recordWords.bits1 : waitsOk impl_recordWords.T1.2 impl_recordWords.B1 = true := by kernel_rfl
set_option maxHeartbeats 40000000 in
set_option maxRecDepth 100000 in
theorem impl_recordWords.calls [ErrA] (a0_0 : Int) (a0_1 : Int) (a0_2 : Bool) (A0_3 : Option Addr) (c0_3 : Nat) (l0_3 : List Int) (a0_4 : Bool) (A0_5 : Option Addr) (c0_5 : Nat) (l0_5 : List Int) (r : List ByteArray) (w : World) (hE : ErrOk [1] w) (hr0_3 : Kd.C (Kd.int .i64) w A0_3 l0_3.length l0_3) (hc0_3 : l0_3.length ≤ c0_3) (hr0_5 : Kd.C (Kd.int .i64) w A0_5 l0_5.length l0_5) (hc0_5 : l0_5.length ≤ c0_5) (h : impl_recordWords.f a0_0 a0_1 a0_2 l0_3 a0_4 l0_5 = some r) :
  Calls Tryd.prog 35 #[.agg #[.int .i64 a0_0, .int .i64 a0_1, .bool a0_2, .slice A0_3 l0_3.length c0_3, .bool a0_4, .slice A0_5 l0_5.length c0_5]] w fun e w' => ∃ v0_ : Value, e = .returned (v0_) ∧ Kd.R Kd.string 9 w' w.heap.size (fun _ => True) v0_ r ∧ Below w.heap.size w w' := by
 have HE := Aside0.mk hE
 clear hE
 have hu25 := Tryd.underlying25
 have HR0_3 := Aside0.mk hr0_3
 have HC0_3 := Aside0.mk hc0_3
 clear hr0_3 hc0_3
 have HR0_5 := Aside0.mk hr0_5
 have HC0_5 := Aside0.mk hc0_5
 clear hr0_5 hc0_5
 have HB := Aside0.mk (Below.refl w.heap.size w)
 have H : ((strconv_Itoa_67.f a0_0).bind fun t206 => ((strconv_Itoa_67.f a0_1).bind fun t207 => ((impl_partText.f a0_2 l0_3).bind fun t208 => ((impl_partText.f a0_4 l0_5).bind fun t209 => (some (([t206, t207, t208, t209] : List ByteArray))))))) = some r := h
 clear h
 replace H := tbe H
 obtain ⟨t206, A2, H⟩ := H
 replace H := tbe H
 obtain ⟨t207, A3, H⟩ := H
 replace H := tbe H
 obtain ⟨t208, A4, H⟩ := H
 replace H := tbe H
 obtain ⟨t209, A5, H⟩ := H
 obtain ⟨y210, hy210⟩ : ∃ y_ : List ByteArray, y_ = (([t206, t207, t208, t209] : List ByteArray)) := ⟨_, rfl⟩
 replace H : (some y210) = some r := by first | (rw [hy210]; with_reducible exact H) | (have H2_ := (Option.bind_some _ _).symm.trans H; rw [hy210]; with_reducible exact H2_) | (have H2_ := (Option.bind_some _ _).symm.trans H; with_reducible exact H2_) | with_reducible exact H | (rw [hy210]; exact H) | exact H
 have Ny210 := Aside0.mk hy210
 clear hy210
 obtain rfl := Option.some.inj H
 go_enter Tryd.func35, Tryd.ntmps35
 try go_wp2_with (first | ((with_reducible refine gate_dst (N := 1) rfl ?_); refine box_event ?hg (N := 1) ?hd (cs := #[.int .i64 a0_0, .int .i64 a0_1, .bool a0_2, .slice A0_3 l0_3.length c0_3, .bool a0_4, .slice A0_5 l0_5.length c0_5]) (t := 25) ?hr ?_; (case hd => rfl); (case hg => rfl); (case hr => first | (go_simp; done) | (go_simp; rfl)); intro gb205 hg w6 hbox hb; have BK205 := Aside0.mk (hbox); have GW205 := tge HB hg; have GE205 := tge HB hg; replace HB := tBs HB hb; clear hb hbox hg))
 replace BK205 := Aside0.mk (blk_drew BK205.out)
 replace HB := Aside0.mk (below_drew1 HB.out)
 refine start_ (n := 18) (S := fun w' => w'.cell? ⟨gb205, 0, none⟩ = some (.int .i64 a0_0) ∧ w'.cell? ⟨gb205, 1, none⟩ = some (.int .i64 a0_1) ∧ w'.cell? ⟨gb205, 2, none⟩ = some (.bool a0_2) ∧ w'.cell? ⟨gb205, 3, none⟩ = some (.slice A0_3 l0_3.length c0_3) ∧ w'.cell? ⟨gb205, 4, none⟩ = some (.bool a0_4) ∧ w'.cell? ⟨gb205, 5, none⟩ = some (.slice A0_5 l0_5.length c0_5)) (ds := []) #[false, false, false, false, false, false, false, false, false, false, false, false, false, false, false, false, false, false] (by kernel_rfl) rfl rfl ⟨(blk_cell BK205.out 0).trans rfl, (blk_cell BK205.out 1).trans rfl, (blk_cell BK205.out 2).trans rfl, (blk_cell BK205.out 3).trans rfl, (blk_cell BK205.out 4).trans rfl, (blk_cell BK205.out 5).trans rfl⟩ (fun hHeld => ?_); refine with_tabW impl_recordWords.tab1 impl_recordWords.bits1 (fun HT_ HW_ => ?_)
 generalize w6.drew = w7 at BK205 HB hHeld ⊢
 refine tpu 0 (some 3) #[true, false, false, false, false, false, false, false, false, false, false, false, false, false, false, false, false, false] ?_
 refine tpu 3 (some 6) #[true, false, false, true, false, false, false, false, false, false, false, false, false, false, false, false, false, false] ?_
 refine tpu 6 (some 9) #[true, false, false, true, false, false, true, false, false, false, false, false, false, false, false, false, false, false] ?_
 refine tpu 8 (some 11) #[true, false, false, true, false, false, true, false, true, false, false, false, false, false, false, false, false, false] ?_
 refine tpu 11 (some 14) #[true, false, false, true, false, false, true, false, true, false, false, true, false, false, false, false, false, false] ?_
 refine tpu 13 (some 16) #[true, false, false, true, false, false, true, false, true, false, false, true, false, true, false, false, false, false] ?_
 refine tta 1 (some 4) #[true, true, false, true, false, false, true, false, true, false, false, true, false, true, false, false, false, false] hHeld ?_ (hy := by rintro w' ⟨s0, s1, s2, s3, s4, s5⟩; go_simp; with_reducible rfl)
 refine tta 4 (some 7) #[true, true, false, true, true, false, true, false, true, false, false, true, false, true, false, false, false, false] hHeld ?_ (hy := by rintro w' ⟨s0, s1, s2, s3, s4, s5⟩; go_simp; with_reducible rfl)
 refine tta 7 (some 10) #[true, true, false, true, true, false, true, true, true, false, false, true, false, true, false, false, false, false] hHeld ?_ (hy := by rintro w' ⟨s0, s1, s2, s3, s4, s5⟩; go_simp; with_reducible rfl)
 refine tta 9 (some 12) #[true, true, false, true, true, false, true, true, true, true, false, true, false, true, false, false, false, false] hHeld ?_ (hy := by rintro w' ⟨s0, s1, s2, s3, s4, s5⟩; go_simp; with_reducible rfl)
 refine tta 12 (some 15) #[true, true, false, true, true, false, true, true, true, true, false, true, true, true, false, false, false, false] hHeld ?_ (hy := by rintro w' ⟨s0, s1, s2, s3, s4, s5⟩; go_simp; with_reducible rfl)
 refine tta 14 (some 17) #[true, true, false, true, true, false, true, true, true, true, false, true, true, true, true, false, false, false] hHeld ?_ (hy := by rintro w' ⟨s0, s1, s2, s3, s4, s5⟩; go_simp; with_reducible rfl)
 refine one_ (i := 2) (N := some 5) #[true, true, true, true, true, false, true, true, true, true, false, true, true, true, true, false, false, false] rfl rfl (one_of HT_.out (by kernel_rfl)) (by decide) (fun K hK => ?_)
 refine goes_ Tryd.func67 (by kernel_rfl) rfl #[.int .i64 a0_0] (by rfl) rfl rfl tq ?_
 with_reducible refine (strconv_Itoa_67.calls (hE := ?sideE) a0_0 t206 _ A2.out).mono ?_
 case sideE => exact ErrOk.below (HE.out.sub (by decide)) zb
 rintro e w8 ⟨rfl, hb⟩
 refine ⟨_, rfl, ?_⟩
 replace BK205 := tBb BK205 hb
 replace HB := tBs HB hb
 (try clear hb)
 (try clear hb2)
 (try clear hk)
 (try clear hi)
 refine hK.out _ _ ⟨(blk_cell BK205.out 0).trans rfl, (blk_cell BK205.out 1).trans rfl, (blk_cell BK205.out 2).trans rfl, (blk_cell BK205.out 3).trans rfl, (blk_cell BK205.out 4).trans rfl, (blk_cell BK205.out 5).trans rfl⟩ (fun hHeld => ?_)
 clear hK K
 refine tnm (some 5) ?_
 refine one_ (i := 5) (N := some 8) #[true, true, true, true, true, true, true, true, true, true, false, true, true, true, true, false, false, false] rfl rfl (one_of HT_.out (by kernel_rfl)) (by decide) (fun K hK => ?_)
 refine goes_ Tryd.func67 (by kernel_rfl) rfl #[.int .i64 a0_1] (by rfl) rfl rfl tq ?_
 with_reducible refine (strconv_Itoa_67.calls (hE := ?sideE) a0_1 t207 _ A3.out).mono ?_
 case sideE => exact ErrOk.below (HE.out.sub (by decide)) zb
 rintro e w9 ⟨rfl, hb⟩
 refine ⟨_, rfl, ?_⟩
 replace BK205 := tBb BK205 hb
 replace HB := tBs HB hb
 (try clear hb)
 (try clear hb2)
 (try clear hk)
 (try clear hi)
 refine hK.out _ _ ⟨(blk_cell BK205.out 0).trans rfl, (blk_cell BK205.out 1).trans rfl, (blk_cell BK205.out 2).trans rfl, (blk_cell BK205.out 3).trans rfl, (blk_cell BK205.out 4).trans rfl, (blk_cell BK205.out 5).trans rfl⟩ (fun hHeld => ?_)
 clear hK K
 refine tnm (some 8) ?_
 refine one_ (i := 10) (N := some 13) #[true, true, true, true, true, true, true, true, true, true, true, true, true, true, true, false, false, false] rfl rfl (one_of HT_.out (by kernel_rfl)) (by decide) (fun K hK => ?_)
 refine goes_ Tryd.func68 (by kernel_rfl) rfl #[.bool a0_2, .slice A0_3 l0_3.length c0_3] (by rfl) rfl rfl tq ?_
 with_reducible refine (impl_partText.calls a0_2 _ _ l0_3 t208 _ ?side1 ?side2 A4.out).mono ?_
 (case side1 => exact tC (Kd.C_below HR0_3.out HB.out))
 (case side2 => exact HC0_3.out)
 rintro e w10 ⟨rfl, hb⟩
 refine ⟨_, rfl, ?_⟩
 replace BK205 := tBb BK205 hb
 replace HB := tBs HB hb
 (try clear hb)
 (try clear hb2)
 (try clear hk)
 (try clear hi)
 refine hK.out _ _ ⟨(blk_cell BK205.out 0).trans rfl, (blk_cell BK205.out 1).trans rfl, (blk_cell BK205.out 2).trans rfl, (blk_cell BK205.out 3).trans rfl, (blk_cell BK205.out 4).trans rfl, (blk_cell BK205.out 5).trans rfl⟩ (fun hHeld => ?_)
 clear hK K
 refine tnm (some 13) ?_
 refine one_ (i := 15) (N := some 18) #[true, true, true, true, true, true, true, true, true, true, true, true, true, true, true, true, false, false] rfl rfl (one_of HT_.out (by kernel_rfl)) (by decide) (fun K hK => ?_)
 refine goes_ Tryd.func68 (by kernel_rfl) rfl #[.bool a0_4, .slice A0_5 l0_5.length c0_5] (by rfl) rfl rfl tq ?_
 with_reducible refine (impl_partText.calls a0_4 _ _ l0_5 t209 _ ?side1 ?side2 A5.out).mono ?_
 (case side1 => exact tC (Kd.C_below HR0_5.out HB.out))
 (case side2 => exact HC0_5.out)
 rintro e w11 ⟨rfl, hb⟩
 refine ⟨_, rfl, ?_⟩
 replace BK205 := tBb BK205 hb
 replace HB := tBs HB hb
 (try clear hb)
 (try clear hb2)
 (try clear hk)
 (try clear hi)
 refine hK.out _ _ ⟨(blk_cell BK205.out 0).trans rfl, (blk_cell BK205.out 1).trans rfl, (blk_cell BK205.out 2).trans rfl, (blk_cell BK205.out 3).trans rfl, (blk_cell BK205.out 4).trans rfl, (blk_cell BK205.out 5).trans rfl⟩ (fun hHeld => ?_)
 clear hK K
 refine tnm (some 18) ?_
 refine one_ (i := 16) (N := some 19) #[true, true, true, true, true, true, true, true, true, true, true, true, true, true, true, true, true, false] rfl rfl (one_of HT_.out (by kernel_rfl)) (by decide) (fun K hK => ?_)
 refine Kd.R_lit_step Kd.string _ 9 ?hg (N := 19) ?hd (xs := ([t206, t207, t208, t209] : List ByteArray)) (inner := [.string t206, .string t207, .string t208, .string t209]) (ok := fun _ => True) (okp := fun _ => True) ?hr ?hp (fun _ hk => hk) trivial (Below.refl _ _) (Nat.le_refl _) (by simp) ?_; (case hd => rfl); (case hg => rfl); (case hr => first | (go_simp; done) | (go_simp; rfl)); (case hp => exact (Reps.one (show Kd.M Kd.string _ _ _ t206 [.string t206] from rfl) (Reps.one (show Kd.M Kd.string _ _ _ t207 [.string t207] from rfl) (Reps.one (show Kd.M Kd.string _ _ _ t208 [.string t208] from rfl) (Reps.one (show Kd.M Kd.string _ _ _ t209 [.string t209] from rfl) (Reps.none _ _))))))
 intro v211 w12 ho13 hb hg_ hnew_
 clear hg_ hnew_
 (first | rw [← Ny210.out] at ho13 | (simp only [Int.reduceToNat] at ho13; rw [← Ny210.out] at ho13))
 have HO212 := tRl ho13 HB
 replace BK205 := tBb BK205 hb
 replace HB := tBs HB hb
 clear hb ho13
 refine hK.out _ _ ⟨(blk_cell BK205.out 0).trans rfl, (blk_cell BK205.out 1).trans rfl, (blk_cell BK205.out 2).trans rfl, (blk_cell BK205.out 3).trans rfl, (blk_cell BK205.out 4).trans rfl, (blk_cell BK205.out 5).trans rfl⟩ (fun hHeld => ?_)
 clear hK K
 refine tnm (some 19) ?_
 refine tpu 17 (some 2) #[true, true, true, true, true, true, true, true, true, true, true, true, true, true, true, true, true, true] ?_
 refine done_ (done_of HT_.out (by kernel_rfl)) ?_
 try go_wp2
 go_ret
 exact ⟨_, by first | rfl | (simp [errW_none, errW_some] <;> rfl) | (simp [*, errW_none, errW_some] <;> rfl), tR HO212.out, zb⟩

end Go.Proofs.YteoicjlhkaljbaaDoor.G

namespace Go.Proofs.YteoicjlhkaljbaaDoor.G
open Go.RowKit Go.Proofs.YteoicjlhkaljbaaDoorW.PrintWords Go.Proofs.YteoicjlhkaljbaaDoorW.PrintLast Go.Proofs.YteoicjlhkaljbaaDoorW.PrintMore
set_option linter.unusedVariables false
set_option linter.unusedSimpArgs false
def impl_RecordText.f (k : Nat) (a0_0 : Int) (a0_1 : Int) (a0_2 : Bool) (l0_3 : List Int) (a0_4 : Bool) (l0_5 : List Int) : Option ByteArray :=
  (impl_RecordValid.f k a0_0 a0_1 a0_2 l0_3 a0_4 l0_5).bind fun v => if v = true then (impl_recordWords.f a0_0 a0_1 a0_2 l0_3 a0_4 l0_5).bind fun ws => strings_Join.f ws ⟨#[32]⟩ else some ⟨#[]⟩
set_option maxRecDepth 100000 in
set_option maxHeartbeats 4000000 in
theorem impl_RecordText.calls [ErrA] (k : Nat) (a0_0 : Int) (a0_1 : Int) (a0_2 : Bool) (A0_3 : Option Addr) (c0_3 : Nat) (l0_3 : List Int) (a0_4 : Bool) (A0_5 : Option Addr) (c0_5 : Nat) (l0_5 : List Int) (r : ByteArray) (w : World) (hE : ErrOk [1] w) (hr0_3 : Kd.C (Kd.int .i64) w A0_3 l0_3.length l0_3) (hc0_3 : l0_3.length ≤ c0_3) (hr0_5 : Kd.C (Kd.int .i64) w A0_5 l0_5.length l0_5) (hc0_5 : l0_5.length ≤ c0_5) (h : impl_RecordText.f k a0_0 a0_1 a0_2 l0_3 a0_4 l0_5 = some r) :
    Calls Tryd.prog 13 #[.agg #[.int .i64 a0_0, .int .i64 a0_1, .bool a0_2, .slice A0_3 l0_3.length c0_3, .bool a0_4, .slice A0_5 l0_5.length c0_5]] w fun e w' => e = .returned (.string r) ∧ Below w.heap.size w w' := by
  unfold impl_RecordText.f at h
  obtain ⟨v, hv, h⟩ := Option.bind_eq_some_iff.mp h
  have HE := Aside0.mk hE
  have H3 := Aside0.mk hr0_3
  have H5 := Aside0.mk hr0_5
  have HV := Aside0.mk hv
  clear hE hr0_3 hr0_5 hv
  cases v
  · obtain rfl : (⟨#[]⟩ : ByteArray) = r := by simpa using h
    clear h
    go_enter Tryd.func13, Tryd.ntmps13
    go_wp2_with (go_at_call 24; refine (impl_RecordValid.calls k _ _ _ A0_3 c0_3 l0_3 _ A0_5 c0_5 l0_5 false _ ?x1 hc0_3 ?x2 hc0_5 HV.out).mono ?_; (case x1 => exact Kd.C_alloc H3.out _); (case x2 => exact Kd.C_alloc H5.out _); rintro e w1 ⟨rfl, hb1⟩)
    go_ret
    exact ⟨rfl, (below_alloc (Below.refl _ _) _).trans (hb1.mono (by simp))⟩
  · simp only [if_true] at h
    obtain ⟨ws, hws, h⟩ := Option.bind_eq_some_iff.mp h
    have HW := Aside0.mk hws
    have HJ := Aside0.mk h
    clear hws h
    go_enter Tryd.func13, Tryd.ntmps13
    go_wp2_with (first | (go_at_call 24; refine (impl_RecordValid.calls k _ _ _ A0_3 c0_3 l0_3 _ A0_5 c0_5 l0_5 true _ ?x1 hc0_3 ?x2 hc0_5 HV.out).mono ?_; (case x1 => exact Kd.C_alloc H3.out _); (case x2 => exact Kd.C_alloc H5.out _); rintro e w1 ⟨rfl, hb1⟩; obtain ⟨z0, z1, z2, z3, z4, z5, f0, f1, f2, f3, f4, f5⟩ := cells6 (blk_below (blk_new w _) hb1)) | (go_at_call 36; go_in))
    have B1 := Aside0.mk (below_alloc ((below_alloc (Below.refl w.heap.size w) _).trans (hb1.mono (by simp))) (.cells #[.int .i64 a0_0, .int .i64 a0_1, .bool a0_2, .slice A0_3 l0_3.length c0_3, .bool a0_4, .slice A0_5 l0_5.length c0_5, .func (.func 35) #[] #[]] 57))
    clear hb1 z0 z1 z2 z3 z4 z5 f0 f1 f2 f3 f4 f5
    have E1 := Aside0.mk (HE.out.below B1.out)
    have C3 := Aside0.mk (Kd.C_below H3.out B1.out)
    have C5 := Aside0.mk (Kd.C_below H5.out B1.out)
    refine (impl_recordWords.calls (hE := E1.out) _ _ _ A0_3 c0_3 l0_3 _ A0_5 c0_5 l0_5 ws _ C3.out hc0_3 C5.out hc0_5 HW.out).mono ?_
    rintro e w2 ⟨v, rfl, hR, hb2⟩
    obtain ⟨A, c, rfl, hc, hC⟩ := Kd.R_reads hR
    have B2 := Aside0.mk (below_step B1.out hb2)
    have C2 := Aside0.mk hC
    clear hR hb2 hC
    go_wp2_with (go_at_call 69; refine (strings_Join.calls A c ws _ r _ C2.out hc HJ.out).mono ?_; rintro e w3 ⟨rfl, hb3⟩; have B3 := Aside0.mk (below_step B2.out hb3); clear hb3)
    go_ret
    exact ⟨rfl, B3.out⟩
end Go.Proofs.YteoicjlhkaljbaaDoor.G

namespace Go.Proofs.YteoicjlhkaljbaaDoor.G
open Go.RowKit Go.Shelf Go.Proofs.YteoicjlhkaljbaaDoorW.PrintWords Go.Proofs.YteoicjlhkaljbaaDoorW.PrintLast Go.Proofs.YteoicjlhkaljbaaDoorW.PrintMore
attribute [local go_sem] Oper.semAt_some
set_option linter.unusedVariables false
set_option linter.unusedSimpArgs false
abbrev BR := S84 × S25
def lineT (k : Nat) (r : S25) : Option ByteArray := impl_RecordText.f k r.f0 r.f1 r.f2 r.f3 r.f4 r.f5
def logStep (k : Nat) (o : Option (List UInt8)) (x : BR) : Option (List UInt8) := o.bind fun acc => (lineT k x.2).bind fun t => if t.size ≤ 1000 then some (acc ++ t.data.toList ++ [10]) else none
def logAcc (k : Nat) (l : List BR) : Option (List UInt8) := l.foldl (logStep k) (some [])
theorem logAcc_snoc (k : Nat) (l : List BR) (x : BR) : logAcc k (l ++ [x]) = logStep k (logAcc k l) x := by
  unfold logAcc
  rw [List.foldl_append]
  rfl
theorem logFold_none (k : Nat) (l : List BR) : l.foldl (logStep k) none = none := by
  induction l with
  | nil => rfl
  | cons x l ih => exact ih
theorem logAcc_mem {k : Nat} {l : List BR} {acc : List UInt8} (ha : logAcc k l = some acc) {x : BR} (hx : x ∈ l) : ∃ t, lineT k x.2 = some t ∧ t.size ≤ 1000 := by
  obtain ⟨s, m, rfl⟩ := List.append_of_mem hx
  unfold logAcc at ha
  rw [List.foldl_append, List.foldl_cons] at ha
  cases h1 : logStep k (s.foldl (logStep k) (some [])) x with
  | none => rw [h1, logFold_none] at ha; cases ha
  | some a =>
    unfold logStep at h1
    obtain ⟨b, _, h1⟩ := Option.bind_eq_some_iff.mp h1
    obtain ⟨t, ht, h1⟩ := Option.bind_eq_some_iff.mp h1
    by_cases hs : t.size ≤ 1000
    · exact ⟨t, ht, hs⟩
    · rw [if_neg hs] at h1; cases h1
def impl_LogText.f (k : Nat) (l0 : List S84) : Option ByteArray :=
  (impl_LogValid.f k l0).bind fun v => if v = true then (if lenG l0 = true then (logAcc k (allP l0)).bind fun acc => some ⟨acc.toArray⟩ else none) else some ⟨#[]⟩
theorem kpA_below {n₀ n₁ : Nat} {W W' : World} (hn : n₀ ≤ W.heap.size) (h : Below W.heap.size W W') : KpA n₀ n₁ W W' := ⟨h.mono hn, fun k o _ hk _ => (h.block k (Array.getElem?_eq_some_iff.1 hk).1).trans hk⟩
theorem kpA_kept {n₀ n₁ B b : Nat} {W W' : World} (hB : n₀ ≤ B) (hb : b < n₁) (h : Below B W W') (hk : Lib.OthersKept 5 (some b) W W') : KpA n₀ n₁ W W' :=
  ⟨h.mono hB, fun k o hn ho hc => hk k o ho (fun e => by cases e; omega) (fun c fz e => by subst e; simp [keepB] at hc)⟩
theorem keeps_below {W W' : World} (h : Below W.heap.size W W') (B : Nat) : KeepsFrom B W W' := ⟨h.size, fun k o _ hk _ => (h.block k (Array.getElem?_eq_some_iff.1 hk).1).trans hk⟩
theorem keeps_kept {B0 b : Nat} {l : List UInt8} {W W' : World} (hI : Bld B0 b l W) (h : Below B0 W W') (hk : Lib.OthersKept 5 (some b) W W') (B : Nat) : KeepsFrom B W W' :=
  ⟨h.size, fun k o _ ho hc => hk k o ho (fun e => by
    have hb : ∃ cs t, W.heap[b]? = some (.cells cs t (0, 0)) := by
      rcases hI with ⟨_, v, hv, _⟩ | ⟨_, v, hv, _⟩ <;> exact ⟨_, _, hv⟩
    obtain ⟨cs, t, hb⟩ := hb
    cases e
    rw [hb] at ho
    cases ho
    exact Bool.noConfusion hc) (fun c fz e => by subst e; exact Bool.noConfusion hc)⟩
theorem Bld.own {β : Type} (B0 B b : Nat) (l : β → Option (List UInt8)) (n : β → Nat) : OwnFrom (β := β) B (fun s W => ∃ a, l s = some a ∧ a.length ≤ n s ∧ Bld B0 b a W) := by
  intro s W W' row hs hg hr
  obtain ⟨a, ha, hn, h⟩ := hs
  have one : ∀ {p : Value}, Lib.BuilderAtF 79 5 B0 b p (Lib.byteCells a) W → Lib.BuilderAtF 79 5 B0 b p (Lib.byteCells a) W' := by
    rintro p ⟨h1, v, h2, h3, h4⟩
    have nc : ∀ k cs t fz, W.heap[k]? = some (.cells cs t fz) → some k ≠ row := by
      intro k cs t fz hk e
      obtain ⟨_, o, ho, hc⟩ := hr k e.symm
      rw [hk] at ho
      cases ho
      exact Bool.noConfusion hc
    refine ⟨h1, v, (hg.block b (Array.getElem?_eq_some_iff.1 h2).1 (nc b _ _ _ h2)).trans h2, h3.kept hg ?_, h4⟩
    cases hv : v.ownBlock with
    | none => exact .inl rfl
    | some g =>
      obtain ⟨c, fz, hc⟩ := Lib.ownsRowF_kind h3 g hv
      exact .inr (nc g c _ fz hc)
  exact ⟨a, ha, hn, h.imp one one⟩
theorem wNl_calls (B b : Nat) (l : List UInt8) (w : World) (h : Bld B b l w) (hl : l.length < 100000000000000) (hB : B ≤ w.heap.size) :
    Calls Tryd.prog 59 #[.pointer (some ⟨b, 0, none⟩), .int .u8 10] w fun e w' => e = .returned .nilIface ∧ Bld B b (l ++ [10]) w' ∧ Below B w w' ∧ Lib.OthersKept 5 (some b) w w' := wByte_calls B b l 10 w h hl hB
theorem logAcc_step {k : Nat} {l : List BR} {a : List UInt8} {x : BR} {t : ByteArray} (ha : logAcc k l = some a) (ht : lineT k x.2 = some t) (hs : t.size ≤ 1000) : logAcc k (l ++ [x]) = some (a ++ t.data.toList ++ [10]) := by
  rw [logAcc_snoc, ha]
  unfold logStep
  rw [Option.bind_some, ht, Option.bind_some, if_pos hs]
set_option maxRecDepth 100000 in
set_option maxHeartbeats 4000000 in
theorem impl_LogText.calls [ErrA] (k : Nat) (A0 : Option Addr) (c0 : Nat) (l0 : List (S84)) (r : ByteArray) (w : World) (hE : ErrOk [1] w) (hr0 : Kd.C k84 w A0 l0.length l0) (hc0 : l0.length ≤ c0) (h : impl_LogText.f k l0 = some r) :
    Calls Tryd.prog 26 #[.slice A0 l0.length c0] w fun e w' => e = .returned (.string r) ∧ Below w.heap.size w w' := by
  unfold impl_LogText.f at h
  obtain ⟨v, hv, h⟩ := Option.bind_eq_some_iff.mp h
  refine (callsIn_wide (n := 5)).1 ?_
  have hro : Fence.wide.round = none := rfl
  refine callsIn_of_wp_marks Tryd.func26 rfl trivial ?_ hro
  simp only [Tryd.ntmps26, List.size_toArray, List.length_cons, List.length_nil, Nat.reduceAdd, Nat.reduceSub, Array.replicate_succ, Array.replicate_zero, List.push_toArray, List.append_toArray, List.nil_append, List.cons_append]
  cases v
  · obtain rfl : (⟨#[]⟩ : ByteArray) = r := by simpa using h
    gi_wp2_with first | (refine ⟨trivial, ?_⟩; gi_at_call 56; refine (callsIn_wide.2 (impl_LogValid.calls k A0 c0 l0 false w hr0 hc0 hv)).mono ?_; rintro e w1 ⟨rfl, hb1⟩) | (refine ⟨trivial, ?_⟩)
    exact ⟨_, results_tmp rfl _ _ _, rfl, hb1⟩
  · simp only [if_true] at h
    cases hg : lenG l0
    · rw [hg] at h
      simp at h
    · rw [hg] at h
      simp only [if_true] at h
      obtain ⟨acc, hacc, h⟩ := Option.bind_eq_some_iff.mp h
      obtain rfl := Option.some.inj h
      have hlen := lenG_of hg
      have HE := Aside0.mk hE
      have HA := Aside0.mk hacc
      clear hE hacc h
      gi_wp2_with first | (refine ⟨trivial, ?_⟩; gi_at_call 56; refine (callsIn_wide.2 (impl_LogValid.calls k A0 c0 l0 true w hr0 hc0 hv)).mono ?_; rintro e w1 ⟨rfl, hb1⟩) | (refine ⟨trivial, ?_⟩; gi_at_call 57; refine (recs_in Fence.wide 4 trivial hro A0 l0.length c0 _).mono ?_; rintro e w3 ⟨rfl, rfl⟩)
      have hB1 := below_alloc hb1 (.cells #[.pointer none, .slice none 0 0] 79)
      have bB := Bld.new w1
      have bS := Boxed.new (w1.alloc (.cells #[.pointer none, .slice none 0 0] 79)) 40 (.slice A0 l0.length c0)
      rw [World.size_alloc] at bS
      have bB2 := bB.below (below_alloc (Below.refl _ _) (.cells #[.slice A0 l0.length c0] 40))
      have hB2 := below_alloc hB1 (.cells #[.slice A0 l0.length c0] 40)
      have hz1 := hb1.size
      have HE2 := Aside0.mk (HE.out.below hB2)
      generalize hbk : w1.heap.size = b at *
      obtain ⟨W2, hW2⟩ : ∃ W2, (w1.alloc (.cells #[.pointer none, .slice none 0 0] 79)).alloc (.cells #[.slice A0 l0.length c0] 40) = W2 := ⟨_, rfl⟩
      rw [hW2] at bS bB2 hB2 HE2 ⊢
      have hs2 := bS.lt
      have hM : (allP l0).length ≤ 10000 := Nat.le_trans (allP_len l0 100 hlen.2) (by have := hlen.1; omega)
      refine wpIn_rangeFunc_ownH hro (by decide) (gf := 85) (lb := #[.pointer (some ⟨b + 1, 0, none⟩)]) rfl trivial (enters_of Tryd.func85 (by kernel_rfl) rfl)
        (recs_stops Fence.wide 4 trivial hro (by decide) w A0 c0 l0 hr0 hlen (b + 1) W2.heap.size (by omega) W2 hB2 (Nat.le_refl _) bS.lt bS.cell) kpA_t (kpA_b (n₁ := W2.heap.size) hB2.size) (Below.refl _ _) (fun _ => rfl)
        (fun (pre : List (RX w l0)) W => (∃ a, logAcc k (pre.map RX.key) = some a ∧ a.length ≤ 1001 * pre.length ∧ Bld b b a W) ∧ Below w.heap.size W2 W)
        (fun _ _ _ => False)
        (OwnFrom.and (Bld.own b _ b (fun (pre : List (RX w l0)) => logAcc k (pre.map RX.key)) (fun pre => 1001 * pre.length)) (ownFrom_below hB2.size hB2.size))
        (fun _ _ _ _ _ hs _ _ => hs)
        ⟨⟨[], rfl, Nat.zero_le _, bB2⟩, Below.refl _ _⟩
        (fun x a' W => ∃ Bx, W2.heap.size ≤ Bx ∧ W.heap[Bx]? = some (.cells #[.int .i64 x.r.f0, .int .i64 x.r.f1, .bool x.r.f2, .slice x.A3 x.r.f3.length x.c3, .bool x.r.f4, .slice x.A5 x.r.f5.length x.c5] 25) ∧
          a' = { tmps := #[.slice A0 l0.length c0, undef, .string { data := #[] }, .pointer (some ⟨b, 0, none⟩), undef, .pointer (some ⟨Bx, 0, none⟩), .slice A0 l0.length c0, .bool true, .bool false, .slice A0 l0.length c0, .func (.func 85) #[] #[.pointer (some ⟨b + 1, 0, none⟩)], aggB x.b x.A x.c, aggR x.r x.A3 x.c3 x.A5 x.c5, undef, undef, undef, undef, undef], defers := [] })
        (fun x a' s A B row hs hg hr => by obtain ⟨Bx, h1, h2, h3⟩ := hs; exact ⟨Bx, h1, heap_own W2.heap.size Bx _ _ s A B row h2 hg hr, h3⟩)
        ?assign ?body ?done ?stop
      case assign =>
        rintro lp pre x W K ⟨⟨a, ha, hn, hI⟩, hB6⟩ hK
        simp only [RX.encs, aggB, aggR] at hK ⊢
        gi_wp2
        exact hK _ _ ((KeepsOthers.alloc _ _).from _) (kpA_alloc _ _ hB2.size W (Nat.le_trans hB2.size hB6.size) _) ⟨⟨a, ha, hn, hI.below (below_alloc (Below.refl _ _) _)⟩, hB6.alloc (Nat.le_trans hB2.size hB6.size) _⟩ ⟨W.heap.size, hB6.size, World.alloc_heap_new W _, rfl⟩
      case body =>
        rintro lp pre x a' W hl ⟨r, hr⟩ ⟨⟨a, ha, hn, hI⟩, hB6⟩ ⟨Bx, hBx, bX, rfl⟩ hlt2
        obtain ⟨z0, z1, z2, z3, z4, z5, f0, f1, f2, f3, f4, f5⟩ := cells6 bX
        obtain ⟨t, ht, hts⟩ := logAcc_mem HA.out x.hm
        have hbW := Aside0.mk (hB2.trans hB6)
        have hst := logAcc_step (x := x.key) ha ht hts
        have HS := Aside0.mk hst
        have C3 := Aside0.mk (Kd.C_below x.h3.2 hbW.out)
        have C5 := Aside0.mk (Kd.C_below x.h5.2 hbW.out)
        have hbs : b ≤ W.heap.size := by have := hB6.size; omega
        have HT := Aside0.mk ht
        have HI := Aside0.mk hI
        clear hst ha ht hI
        have hdl := data_length t
        gi_wp2_with (refine ⟨trivial, ?_⟩; gi_at_call 13; refine (callsIn_wide.2 (impl_RecordText.calls (hE := HE.out.below hbW.out) k _ _ _ x.A3 x.c3 x.r.f3 _ x.A5 x.c5 x.r.f5 t _ C3.out x.h3.1 C5.out x.h5.1 HT.out)).mono ?_; rintro e W3 ⟨rfl, hb3⟩)
        have hb3z := hb3.size
        refine ⟨trivial, (callsIn_wide.2 (wStr_calls b b a t W3 (HI.out.below hb3) (by omega) (by omega))).mono ?_⟩
        rintro e W4 ⟨rfl, hI4, hb4, hk4⟩
        have hb4z := hb4.size
        have HI4 := Aside0.mk hI4
        have R3 := Aside0.mk (And.intro hb3 (And.intro hb4 hk4))
        clear hI4 hb4 hk4 hb3
        gi_wp2_with (refine ⟨trivial, ?_⟩; gi_at_call 59; refine (callsIn_wide.2 (wNl_calls b b _ _ HI4.out (by simp only [List.length_append]; omega) (by omega))).mono ?_; rintro e W5 ⟨rfl, hI5, hb5, hk5⟩)
        obtain ⟨hb3, hb4, hk4⟩ := R3.out
        have hw2 : w.heap.size ≤ W.heap.size := by omega
        refine ⟨((keeps_below hb3 _).trans (keeps_kept (HI.out.below hb3) hb4 hk4 _)).trans (keeps_kept HI4.out hb5 hk5 _), kpA_t (kpA_below hw2 hb3) (kpA_t (kpA_kept hz1 (by omega) hb4 hk4) (kpA_kept hz1 (by omega) hb5 hk5)), ⟨_, ?_, ?_, hI5⟩, ((hB6.trans (hb3.mono hw2)).trans (hb4.mono hz1)).trans (hb5.mono hz1)⟩
        · rw [List.map_append, List.map_cons, List.map_nil]
          exact HS.out
        · simp only [List.length_append, List.length_singleton]
          omega
      case done =>
        rintro D ys W hD hys ⟨⟨a, ha, hn, hI⟩, hB6⟩ hK
        rw [hys] at ha
        obtain rfl := Option.some.inj (ha.symm.trans HA.out)
        have hbs : b ≤ W.heap.size := by have := hB6.size; omega
        gi_wp2_with (refine ⟨trivial, ?_⟩; gi_at_call 60; refine (callsIn_wide.2 (bStr_calls b b _ _ hI hbs)).mono ?_; rintro e W5 ⟨rfl, hI5, hb5, hk5⟩)
        have hK5 : W5.heap[D]? = some (.deferred (some [])) := hk5 D _ hK (fun e => by cases e; omega) (fun c fz e => by cases e)
        refine ⟨by simp, .inl ⟨_, _, rfl, run_takeDeferred hK5, ?_⟩⟩
        exact ⟨_, results_tmp rfl _ _ _, rfl, ((hB2.trans hB6).trans (hb5.mono hz1)).trans (belowK_b (w := W2) hB2.size W5 D _ _ hD hK5 rfl rfl)⟩
      case stop =>
        rintro D c pre W _ _ h _
        exact h.elim
end Go.Proofs.YteoicjlhkaljbaaDoor.G

namespace Go.Proofs.YteoicjlhkaljbaaDoor.G
open Go.RowKit Go.Proofs.YteoicjlhkaljbaaDoorW.PrintWords Go.Proofs.YteoicjlhkaljbaaDoorW.PrintLast Go.Proofs.YteoicjlhkaljbaaDoorW.PrintMore Go.Proofs.YteoicjlhkaljbaaDoor.Pu
set_option linter.unusedVariables false
set_option linter.unusedSimpArgs false
/-- The cells that hold a record. -/
def CellsR (W : World) (p : Addr) (r : S25) (A3 : Option Addr) (c3 : Nat) (A5 : Option Addr) (c5 : Nat) : Prop :=
  W.cell? p = some (.int .i64 r.f0) ∧ W.cell? ⟨p.block, p.off + 1, none⟩ = some (.int .i64 r.f1) ∧ W.cell? ⟨p.block, p.off + 2, none⟩ = some (.bool r.f2) ∧ W.cell? ⟨p.block, p.off + 3, none⟩ = some (.slice A3 r.f3.length c3) ∧ W.cell? ⟨p.block, p.off + 4, none⟩ = some (.bool r.f4) ∧ W.cell? ⟨p.block, p.off + 5, none⟩ = some (.slice A5 r.f5.length c5)
theorem CellsR.below {W W' : World} {p : Addr} {r : S25} {A3 A5 : Option Addr} {c3 c5 : Nat} (h : CellsR W p r A3 c3 A5 c5) (hb : Below W.heap.size W W') : CellsR W' p r A3 c3 A5 c5 := ⟨pw_cell_below hb h.1, pw_cell_below hb h.2.1, pw_cell_below hb h.2.2.1, pw_cell_below hb h.2.2.2.1, pw_cell_below hb h.2.2.2.2.1, pw_cell_below hb h.2.2.2.2.2⟩
theorem in_q (a b c : Int) (w : World) : Calls Tryd.prog 70 #[.int .i64 a, .int .i64 b, .int .i64 c] w fun e w' => e = .returned (.bool (decide (b ≤ a) && decide (a ≤ c))) ∧ ∃ n, w' = w.drewN n :=
  (spec_l6In.calls a b c _ w (in_ev a b c)).mono fun e w' h => ⟨h.1, h.2.out⟩
set_option maxRecDepth 100000 in
set_option maxHeartbeats 4000000 in
theorem specrecs_q (l : List S25) (A : Option Addr) (c : Nat) (w : World) (hr : Kd.C k25 w A l.length l) (hc : l.length ≤ c) :
    Calls Tryd.prog 87 #[.slice A l.length c] w fun e w' => e = .returned (.bool (recsInc l && lenOk l)) ∧ Below w.heap.size w w' := by
  have hl := hr.2.1
  have HR := Aside0.mk hr
  clear hr
  go_enter Tryd.func87, Tryd.ntmps87
  go_wp2
  go_loopw [3] (fun v3 wr => ∃ i : Nat, v3 = .int .i64 i ∧ i ≤ l.length ∧ (∀ j, j < i → recStep l j = true) ∧ Below w.heap.size w wr) (fun v3 _ => l.length - (intOf v3).toNat)
  case atStart => exact ⟨0, rfl, Nat.zero_le _, fun j hj => absurd hj (Nat.not_lt_zero j), Below.refl _ _⟩
  case round =>
    obtain ⟨i, rfl, hi, hall, hB1⟩ := hrel
    by_cases hlt : i < l.length
    · obtain ⟨ad, A3, c3, A5, c5, rfl, e0, e1, e2, e3, e4, e5, l3, g3, l5, g5⟩ := at_T25 (Kd.C_below HR.out hB1) (i : Int) (by omega) (by omega)
      rw [show ((i : Int)).toNat = i from rfl] at e0 e1 e2 e3 e4 e5
      have hrec : recStep l i = (recOk (rd_T25 l (i : Int)) && (decide (i = 0) || decide ((rd_T25 l ((i : Int) - 1)).f0 < (rd_T25 l (i : Int)).f0))) := rfl
      generalize rd_T25 l (i : Int) = ri at *
      have ci : CellsR wr (ad.add (i * 6)) ri A3 c3 A5 c5 := ⟨e0, e1, e2, e3, e4, e5⟩
      clear e0 e1 e2 e3 e4 e5
      go_wp2
      obtain ⟨kR, hkR⟩ := (sRecordValid_ev ri ⟨g3.2.1, g5.2.1⟩).rounds
      have hrc : ∀ (W2 : World), Below wr.heap.size wr W2 → Calls Tryd.prog 37 #[.agg #[.int .i64 ri.f0, .int .i64 ri.f1, .bool ri.f2, .slice A3 ri.f3.length c3, .bool ri.f4, .slice A5 ri.f5.length c5]] W2 fun e w' => e = .returned (.bool (recOk ri)) ∧ Below W2.heap.size W2 w' := fun (W2 : World) (hb : Below wr.heap.size wr W2) => spec_RecordValid.calls kR ri.f0 ri.f1 ri.f2 A3 c3 ri.f3 ri.f4 A5 c5 ri.f5 _ W2 (Kd.C_below g3 hb) l3 (Kd.C_below g5 hb) l5 hkR
      have HRC := Aside0.mk hrc
      clear hrc
      have kS : ∀ w' : World, Below wr.drew.heap.size wr.drew w' → CellsR w' (ad.add (i * 6)) ri A3 c3 A5 c5 ∧ Below wr.heap.size wr w' := fun w' h => ⟨ci.below (below_step (below_drew (Below.refl _ wr)) h), below_step (below_drew (Below.refl _ wr)) h⟩
      have hil : (i : Int) < (l.length : Int) := by omega
      rcases hok : recOk ri with _ | _ <;> rw [hok] at hkR HRC
      · have hno := Aside0.mk (incs_no hlt (hrec.trans (by rw [hok]; rfl)))
        refine r_begin (fun w' => CellsR w' (ad.add (i * 6)) ri A3 c3 A5 c5 ∧ Below wr.heap.size wr w') 24 (by kernel_rfl) rfl (kS _ (Below.refl _ _)) (fun hH => ?_)
        repeat (first | (refine r_skip (by kernel_rfl) (by rfl) (fun _ _ _ h => h) hH ?_; simp only [Act.put, List.setIfInBounds_toArray, List.set_cons_zero, List.set_cons_succ, Nat.reduceAdd]) | (refine r_go (v := ?_) (by kernel_rfl) (by rfl) (fun _ _ _ h => h) hH ?_ ?_; rotate_left; (focus (intro w hS; obtain ⟨⟨e0, e1, e2, e3, e4, e5⟩, e6⟩ := hS; go_simp; first | done | with_reducible rfl)); simp only [Act.put, List.setIfInBounds_toArray, List.set_cons_zero, List.set_cons_succ, Nat.reduceAdd]) | (fail "x"))
        refine r_one (by kernel_rfl) (by rfl) (fun K hK => ?_)
        go_simp
        go_at_call 37
        refine (HRC.out _ hH.2).mono ?_
        rintro e w2 ⟨rfl, hb⟩
        go_wp2_with fail
        refine hK.out _ _ (kS _ hb) (fun hH => ?_)
        clear hK K
        simp only [Act.put, List.setIfInBounds_toArray, List.set_cons_zero, List.set_cons_succ, Nat.reduceAdd]
        repeat (first | (refine r_skip (by kernel_rfl) (by rfl) (fun _ _ _ h => h) hH ?_; simp only [Act.put, List.setIfInBounds_toArray, List.set_cons_zero, List.set_cons_succ, Nat.reduceAdd]) | (refine r_go (v := ?_) (by kernel_rfl) (by rfl) (fun _ _ _ h => h) hH ?_ ?_; rotate_left; (focus (intro w hS; obtain ⟨⟨e0, e1, e2, e3, e4, e5⟩, e6⟩ := hS; go_simp; first | done | with_reducible rfl)); simp only [Act.put, List.setIfInBounds_toArray, List.set_cons_zero, List.set_cons_succ, Nat.reduceAdd]) | (fail "x"))
        refine r_done (by kernel_rfl) ?_
        go_wp2
        go_ret
        exact ⟨by rw [hno.out]; rfl, below_step hB1 hH.2⟩
      · rcases i with _ | j
        · have ez : ad.add (0 * 6) = ad := by go_simp
          rw [ez] at ci
          simp only [ez] at kS
          refine r_begin (fun w' => CellsR w' ad ri A3 c3 A5 c5 ∧ Below wr.heap.size wr w') 24 (by kernel_rfl) rfl (kS _ (Below.refl _ _)) (fun hH => ?_)
          repeat (first | (refine r_skip (by kernel_rfl) (by rfl) (fun _ _ _ h => h) hH ?_; simp only [Act.put, List.setIfInBounds_toArray, List.set_cons_zero, List.set_cons_succ, Nat.reduceAdd]) | (refine r_go (v := ?_) (by kernel_rfl) (by rfl) (fun _ _ _ h => h) hH ?_ ?_; rotate_left; (focus (intro w hS; obtain ⟨⟨e0, e1, e2, e3, e4, e5⟩, e6⟩ := hS; go_simp; first | done | with_reducible rfl)); simp only [Act.put, List.setIfInBounds_toArray, List.set_cons_zero, List.set_cons_succ, Nat.reduceAdd]) | (fail "x"))
          refine r_one (by kernel_rfl) (by rfl) (fun K hK => ?_)
          go_simp
          go_at_call 37
          refine (HRC.out _ hH.2).mono ?_
          rintro e w2 ⟨rfl, hb⟩
          go_wp2_with fail
          refine hK.out _ _ (kS _ hb) (fun hH => ?_)
          clear hK K
          simp only [Act.put, List.setIfInBounds_toArray, List.set_cons_zero, List.set_cons_succ, Nat.reduceAdd]
          repeat (first | (refine r_skip (by kernel_rfl) (by rfl) (fun _ _ _ h => h) hH ?_; simp only [Act.put, List.setIfInBounds_toArray, List.set_cons_zero, List.set_cons_succ, Nat.reduceAdd]) | (refine r_go (v := ?_) (by kernel_rfl) (by rfl) (fun _ _ _ h => h) hH ?_ ?_; rotate_left; (focus (intro w hS; obtain ⟨⟨e0, e1, e2, e3, e4, e5⟩, e6⟩ := hS; go_simp; first | done | with_reducible rfl)); simp only [Act.put, List.setIfInBounds_toArray, List.set_cons_zero, List.set_cons_succ, Nat.reduceAdd]) | (fail "x"))
          refine r_done (by kernel_rfl) ?_
          go_wp2
          go_roundw
          case rel =>
            have hst : ∀ j, j < 0 + 1 → recStep l j = true := by
              intro j hj
              obtain rfl : j = 0 := by omega
              exact hrec.trans (by rw [hok]; rfl)
            first | exact ⟨0 + 1, by simp, hlt, hst, below_step hB1 hH.2⟩ | ((repeat apply Exists.intro); refine ⟨⟨0 + 1, ?_, hlt, hst, below_step hB1 hH.2⟩, by first | rfl | (repeat' apply And.intro) <;> rfl⟩; simp)
          case measure => simp [intOf]; omega
        · obtain ⟨ad2, _, _, _, _, hq, f0, _⟩ := at_T25 (Kd.C_below HR.out hB1) (j : Int) (by omega) (by omega)
          cases hq
          rw [show ((j : Int)).toNat = j from rfl] at f0
          have hrec2 : recStep l (j + 1) = (recOk ri && (decide (j + 1 = 0) || decide ((rd_T25 l (j : Int)).f0 < ri.f0))) := by
            rw [hrec, show ((j + 1 : Nat) : Int) - 1 = (j : Int) by omega]
          generalize (rd_T25 l (j : Int)).f0 = pj at f0 hrec2
          have hwj : IntKind.i64.wrap (j : Int) = (j : Int) := by rw [i64_w]; unfold wrap64; omega
          have hjl : (j : Int) < (l.length : Int) := by omega
          have hjl1 : (j : Int) + 1 < (l.length : Int) := by omega
          have hj0 : (0 : Int) ≤ (j : Int) + 1 := by omega
          have htn : ((j : Int) + 1).toNat = j + 1 := by omega
          have kS2 : ∀ w' : World, Below wr.drew.heap.size wr.drew w' → (CellsR w' (ad.add ((j + 1) * 6)) ri A3 c3 A5 c5 ∧ Below wr.heap.size wr w') ∧ w'.cell? (ad.add (j * 6)) = some (.int .i64 pj) := fun w' h => ⟨kS w' h, pw_cell_below (below_step (below_drew (Below.refl _ wr)) h) f0⟩
          have hno := Aside0.mk hrec2
          clear hrec hrec2
          refine r_begin (fun w' => (CellsR w' (ad.add ((j + 1) * 6)) ri A3 c3 A5 c5 ∧ Below wr.heap.size wr w') ∧ w'.cell? (ad.add (j * 6)) = some (.int .i64 pj)) 24 (by kernel_rfl) rfl (kS2 _ (Below.refl _ _)) (fun hH => ?_)
          repeat (first | (refine r_skip (by kernel_rfl) (by rfl) (fun _ _ _ h => h) hH ?_; simp only [Act.put, List.setIfInBounds_toArray, List.set_cons_zero, List.set_cons_succ, Nat.reduceAdd]) | (refine r_go (v := ?_) (by kernel_rfl) (by rfl) (fun _ _ _ h => h) hH ?_ ?_; rotate_left; (focus (intro w hS; obtain ⟨⟨⟨e0, e1, e2, e3, e4, e5⟩, e6⟩, e7⟩ := hS; go_simp; first | done | with_reducible rfl)); simp only [Act.put, List.setIfInBounds_toArray, List.set_cons_zero, List.set_cons_succ, Nat.reduceAdd]) | (fail "x"))
          refine r_one (by kernel_rfl) (by rfl) (fun K hK => ?_)
          go_simp
          go_at_call 37
          refine (HRC.out _ hH.1.2).mono ?_
          rintro e w2 ⟨rfl, hb⟩
          go_wp2_with fail
          refine hK.out _ _ (kS2 _ hb) (fun hH => ?_)
          clear hK K
          simp only [Act.put, List.setIfInBounds_toArray, List.set_cons_zero, List.set_cons_succ, Nat.reduceAdd]
          repeat (first | (refine r_skip (by kernel_rfl) (by rfl) (fun _ _ _ h => h) hH ?_; simp only [Act.put, List.setIfInBounds_toArray, List.set_cons_zero, List.set_cons_succ, Nat.reduceAdd]) | (refine r_go (v := ?_) (by kernel_rfl) (by rfl) (fun _ _ _ h => h) hH ?_ ?_; rotate_left; (focus (intro w hS; obtain ⟨⟨⟨e0, e1, e2, e3, e4, e5⟩, e6⟩, e7⟩ := hS; go_simp; first | done | with_reducible rfl)); simp only [Act.put, List.setIfInBounds_toArray, List.set_cons_zero, List.set_cons_succ, Nat.reduceAdd]) | (fail "x"))
          refine r_done (by kernel_rfl) ?_
          have hBw := below_step hB1 hH.1.2
          by_cases hlt2 : pj < ri.f0
          · have hst : ∀ j', j' < j + 1 + 1 → recStep l j' = true := by
              intro j' hj
              by_cases h' : j' < j + 1
              · exact hall j' h'
              · obtain rfl : j' = j + 1 := by omega
                rw [hno.out, hok, decide_eq_true hlt2, Bool.or_true]; rfl
            have hng : ¬ ri.f0 ≤ pj := by omega
            go_wp2
            go_roundw
            case rel => first | exact ⟨j + 1 + 1, by simp, hlt, hst, hBw⟩ | ((repeat apply Exists.intro); refine ⟨⟨j + 1 + 1, ?_, hlt, hst, hBw⟩, by first | rfl | (repeat' apply And.intro) <;> rfl⟩; simp)
            case measure => simp [intOf]; omega
          · have hn2 := Aside0.mk (incs_no hlt (hno.out.trans (by rw [hok, decide_eq_false hlt2, decide_eq_false (show ¬ j + 1 = 0 by omega)]; rfl)))
            have hng : ri.f0 ≤ pj := by omega
            go_wp2
            go_ret
            exact ⟨by rw [hn2.out]; rfl, hBw⟩
    · obtain rfl : i = l.length := by omega
      go_wp2_with (go_at_call 70; refine (in_q _ _ _ _).mono ?_; rintro e w' ⟨rfl, ⟨n, rfl⟩⟩)
      go_ret
      exact ⟨by rw [incs_of hall]; rfl, pw_below_drewN hB1 _⟩
def batTail (b : S84) : Bool := if b.f2 = 255 then decide (b.f3 = 0) && (decide (b.f4 = 0) && !b.f1) else (!b.f1 || decide ((b.f5.length : Int) = 1))
theorem batOk_spec (b : S84) : batOk b = ((recsInc b.f5 && lenOk b.f5) && ((decide (0 ≤ b.f2) && decide (b.f2 ≤ 255)) && ((decide (0 ≤ b.f3) && decide (b.f3 ≤ 99)) && ((decide (0 ≤ b.f4) && decide (b.f4 ≤ 9999)) && batTail b)))) := by
  unfold batOk headOk batTail
  by_cases h : b.f2 = 255
  · rw [if_pos h, if_pos h, h]
    cases recsInc b.f5
    · simp
    · rw [Bool.eq_iff_iff]
      simp only [lenOk, Bool.and_eq_true, Bool.or_eq_true, decide_eq_true_eq, Bool.not_eq_true']
      constructor
      · rintro ⟨⟨h3, h4, h1⟩, hl, hm, _⟩
        exact ⟨⟨trivial, hl⟩, ⟨by omega, by omega⟩, ⟨by omega, by omega⟩, ⟨by omega, by omega⟩, h3, h4, h1⟩
      · rintro ⟨⟨_, hl⟩, _, _, _, h3, h4, h1⟩
        exact ⟨⟨h3, h4, h1⟩, hl, .inl h1, trivial⟩
  · rw [if_neg h, if_neg h]
    rw [Bool.eq_iff_iff]
    simp only [Bool.and_eq_true, decide_eq_true_eq]
    constructor
    · rintro ⟨⟨h2, h3, h4⟩, hl, hm, hr⟩
      exact ⟨⟨hr, hl⟩, ⟨by omega, by omega⟩, h3, h4, hm⟩
    · rintro ⟨⟨hr, hl⟩, h2, h3, h4, hm⟩
      exact ⟨⟨⟨by omega, by omega⟩, h3, h4⟩, hl, hm, hr⟩
theorem sb_no {b2 b3 b4 : Int} {x : Bool} (h : ¬(0 ≤ b2 ∧ b2 ≤ 255) ∨ ¬(0 ≤ b3 ∧ b3 ≤ 99) ∨ ((!decide (0 ≤ b4)) = true ∨ (!decide (b4 ≤ 9999)) = true)) : Ending.returned (.bool false) = .returned (.bool (true && ((decide (0 ≤ b2) && decide (b2 ≤ 255)) && ((decide (0 ≤ b3) && decide (b3 ≤ 99)) && ((decide (0 ≤ b4) && decide (b4 ≤ 9999)) && x))))) := by
  congr 2
  grind
theorem sb_t {b2 b3 b4 : Int} {x y : Bool} (h2 : 0 ≤ b2 ∧ b2 ≤ 255) (h3 : 0 ≤ b3 ∧ b3 ≤ 99) (h4 : (!decide (0 ≤ b4)) = false ∧ (!decide (b4 ≤ 9999)) = false) (hx : x = y) : Ending.returned (.bool y) = .returned (.bool (true && ((decide (0 ≤ b2) && decide (b2 ≤ 255)) && ((decide (0 ≤ b3) && decide (b3 ≤ 99)) && ((decide (0 ≤ b4) && decide (b4 ≤ 9999)) && x))))) := by
  subst hx
  congr 2
  grind
section
variable {b0 b1 : Bool} {b2 b3 b4 : Int} {l : List S25}
theorem tl1 (h : (b2 == 255) = true) (h3 : b3 = 0) (h4 : b4 = 0) : batTail ⟨b0, b1, b2, b3, b4, l⟩ = !b1 := by unfold batTail; grind
theorem tl2 (h : (b2 == 255) = true) (h3 : b3 = 0) (h4 : ¬ b4 = 0) : batTail ⟨b0, b1, b2, b3, b4, l⟩ = false := by unfold batTail; grind
theorem tl3 (h : (b2 == 255) = true) (h3 : ¬ b3 = 0) : batTail ⟨b0, b1, b2, b3, b4, l⟩ = false := by unfold batTail; grind
theorem tl4 (h : (b2 == 255) = false) (h1 : b1 = true) : batTail ⟨b0, b1, b2, b3, b4, l⟩ = ((l.length : Int) == 1) := by unfold batTail; grind
theorem tl5 (h : (b2 == 255) = false) (h1 : ¬ b1 = true) : batTail ⟨b0, b1, b2, b3, b4, l⟩ = true := by unfold batTail; grind
end
set_option maxRecDepth 100000 in
set_option maxHeartbeats 4000000 in
theorem specbat_q (b : S84) (A : Option Addr) (c : Nat) (w : World) (hr : Kd.C k25 w A b.f5.length b.f5) (hc : b.f5.length ≤ c) :
    Calls Tryd.prog 61 #[.agg #[.bool b.f0, .bool b.f1, .int .i64 b.f2, .int .i64 b.f3, .int .i64 b.f4, .slice A b.f5.length c]] w fun e w' => e = .returned (.bool (batOk b)) ∧ Below w.heap.size w w' := by
  rw [batOk_spec]
  obtain ⟨b0, b1, b2, b3, b4, l⟩ := b
  simp only at hr hc ⊢
  have hl := hr.2.1
  have HL := Aside0.mk (fun (W2 : World) (hb : Below w.heap.size w W2) => specrecs_q l A c W2 (Kd.C_below hr hb) hc)
  clear hr
  rcases hok : (recsInc l && lenOk l) with _ | _ <;> rw [hok] at HL
  · go_enter Tryd.func61, Tryd.ntmps61
    go_wp2_with (go_at_call 87; refine (HL.out _ (below_alloc (Below.refl _ _) _)).mono ?_; rintro e w1 ⟨rfl, hb⟩)
    go_ret
    exact ⟨rfl, below_step (below_alloc (Below.refl _ _) _) hb⟩
  · go_enter Tryd.func61, Tryd.ntmps61
    go_wp2_with (first | (go_at_call 70; refine (in_q _ _ _ _).mono ?_; rintro e w' ⟨rfl, ⟨n, rfl⟩⟩) | (go_at_call 87; refine (HL.out _ (below_alloc (Below.refl _ _) _)).mono ?_; rintro e w1 ⟨rfl, hb⟩; have hB := below_step (below_alloc (Below.refl _ _) _) hb; have hw := blk_below (heap_alloc_new w _) hb; have q1 := blk_cell hw 1; have q2 := blk_cell hw 2; have q3 := blk_cell hw 3; have q4 := blk_cell hw 4; have q5 := blk_cell hw 5; clear hb hw))
    all_goals (go_ret; exact ⟨by first | exact sb_no (.inl ‹_›) | exact sb_no (.inr (.inl ‹_›)) | exact sb_no (.inr (.inr ‹_›)) | exact sb_t ‹_› ‹_› ‹_› (tl1 ‹_› ‹_› ‹_›) | exact sb_t ‹_› ‹_› ‹_› (tl2 ‹_› ‹_› ‹_›) | exact sb_t ‹_› ‹_› ‹_› (tl3 ‹_› ‹_›) | exact sb_t ‹_› ‹_› ‹_› (tl4 ‹_› ‹_›) | exact sb_t ‹_› ‹_› ‹_› (tl5 ‹_› ‹_›), pw_below_drewN hB _⟩)
end Go.Proofs.YteoicjlhkaljbaaDoor.G

namespace Go.Proofs.YteoicjlhkaljbaaDoor.G
open Go.RowKit Go.Proofs.YteoicjlhkaljbaaDoorW.PrintWords Go.Proofs.YteoicjlhkaljbaaDoorW.PrintLast Go.Proofs.YteoicjlhkaljbaaDoorW.PrintMore
attribute [local go_sem] max2_int min2_int max_two min_two max_three min_three max_four min_four   -- for this text's walks alone
set_option linter.unusedVariables false
set_option linter.unusedSimpArgs false

def spec_l12Last.f (a0_0 : Bool) (a0_1 : Bool) (a0_2 : Int) (a0_3 : Int) (a0_4 : Int) (l0_5 : List (S25)) : Option (Int) := if 0 ≤ (wrap64 ((l0_5.length : Int) - 1)) then (if (wrap64 ((l0_5.length : Int) - 1)) < (l0_5.length : Int) then (some ((rd_T25 l0_5 (wrap64 ((l0_5.length : Int) - 1))).f0)) else (none)) else (none)
set_option maxHeartbeats 8000000 in
set_option maxRecDepth 100000 in
theorem spec_l12Last.calls (a0_0 : Bool) (a0_1 : Bool) (a0_2 : Int) (a0_3 : Int) (a0_4 : Int) (A0_5 : Option Addr) (c0_5 : Nat) (l0_5 : List (S25)) (r : Int) (w : World) (hr0_5 : Kd.C k25 w A0_5 l0_5.length l0_5) (hc0_5 : l0_5.length ≤ c0_5) (h : spec_l12Last.f a0_0 a0_1 a0_2 a0_3 a0_4 l0_5 = some r) :
  Calls Tryd.prog 62 #[.agg #[.bool a0_0, .bool a0_1, .int .i64 a0_2, .int .i64 a0_3, .int .i64 a0_4, .slice A0_5 l0_5.length c0_5]] w fun e w' => e = .returned (.int .i64 r) ∧ Below w.heap.size w w' := by
 have hu84 := Tryd.underlying84
 have HR0_5 := Aside0.mk hr0_5
 have HC0_5 := Aside0.mk hc0_5
 clear hr0_5 hc0_5
 have HB := Aside0.mk (Below.refl w.heap.size w)
 have H : (if 0 ≤ (wrap64 ((l0_5.length : Int) - 1)) then (if (wrap64 ((l0_5.length : Int) - 1)) < (l0_5.length : Int) then (some ((rd_T25 l0_5 (wrap64 ((l0_5.length : Int) - 1))).f0)) else (none)) else (none)) = some r := h
 clear h
 obtain ⟨ji2, hji2⟩ : ∃ j_ : Int, (wrap64 ((l0_5.length : Int) - 1)) = j_ := ⟨_, rfl⟩
 replace H : (if 0 ≤ (ji2) then (if (ji2) < (l0_5.length : Int) then (some ((rd_T25 l0_5 (ji2)).f0)) else (none)) else (none)) = some r := by first | (rw [hji2] at H; exact H) | (simp only [hji2] at H ⊢; exact H)
 have hji2w : (IntKind.i64.wrap ((l0_5.length : Int) - 1)) = ji2 := (i64_w _).trans hji2
 by_cases c3 : 0 ≤ (ji2)
 ·rw [if_pos c3] at H
  have c3b0 : decide (0 ≤ (ji2)) = true := decide_eq_true c3
  clear c3
  by_cases c4 : (ji2) < (l0_5.length : Int)
  ·rw [if_pos c4] at H
   have c4b0 : decide ((ji2) < (l0_5.length : Int)) = true := decide_eq_true c4
   clear c4
   obtain rfl := Option.some.inj H
   go_enter Tryd.func62, Tryd.ntmps62
   go_wp2_with (first | ((with_reducible refine gate_dst (N := 1) rfl ?_); refine box_event ?hg (N := 1) ?hd (cs := #[.bool a0_0, .bool a0_1, .int .i64 a0_2, .int .i64 a0_3, .int .i64 a0_4, .slice A0_5 l0_5.length c0_5]) (t := 84) ?hr ?_; (case hd => rfl); (case hg => rfl); (case hr => first | (go_simp; done) | (go_simp; rfl)); intro gb720 hg w5 hbox hb; have BK720 := Aside0.mk (hbox); have GW720 := tge HB hg; have GE720 := tge HB hg; replace HB := tBs HB hb; clear hb hbox hg; obtain ⟨hcz6_0, hcz6_1, hcz6_2, hcz6_3, hcz6_4, hcz6_5, hfz6_0, hfz6_1, hfz6_2, hfz6_3, hfz6_4, hfz6_5⟩ := cells6 BK720.out; have p721 : 0 ≤ ((ji2) : Int) := td; have q721 : (ji2) < (l0_5.length : Int) := td; obtain ⟨ad721, A721_3, c721_3, A721_5, c721_5, e721, hx721_0, hx721_1, hx721_2, hx721_3, hx721_4, hx721_5, hl721_3, hi721_3, hl721_5, hi721_5⟩ := at_T25 HR0_5.out (ji2) p721 q721; cases e721; replace hx721_0 := tcl HB hx721_0; replace hx721_1 := tcl HB hx721_1; replace hx721_2 := tcl HB hx721_2; replace hx721_3 := tcl HB hx721_3; replace hx721_4 := tcl HB hx721_4; replace hx721_5 := tcl HB hx721_5; have HR721_3 := Aside0.mk hi721_3; have HC721_3 := Aside0.mk hl721_3; clear hi721_3 hl721_3; have HR721_5 := Aside0.mk hi721_5; have HC721_5 := Aside0.mk hl721_5; clear hi721_5 hl721_5; replace p721 := eq_true p721; replace q721 := eq_true q721))
   go_ret
   exact ⟨by first | rfl | (simp [errW_none, errW_some] <;> rfl) | (simp only [← hji2]; first | rfl | (simp [errW_none, errW_some] <;> rfl)) | (simp [*, errW_none, errW_some] <;> rfl), zb⟩
  ·rw [if_neg c4] at H
   exact absurd H (by simp)
 ·rw [if_neg c3] at H
  exact absurd H (by simp)

end Go.Proofs.YteoicjlhkaljbaaDoor.G

namespace Go.Proofs.YteoicjlhkaljbaaDoor.G
open Go.RowKit Go.Proofs.YteoicjlhkaljbaaDoorW.PrintWords Go.Proofs.YteoicjlhkaljbaaDoorW.PrintLast Go.Proofs.YteoicjlhkaljbaaDoorW.PrintMore Go.Proofs.YteoicjlhkaljbaaDoor.Pu
set_option linter.unusedVariables false
set_option linter.unusedSimpArgs false
theorem slast_q (b : S84) (A : Option Addr) (c : Nat) (w : World) (hr : Kd.C k25 w A b.f5.length b.f5) (hc : b.f5.length ≤ c) (hn : 1 ≤ b.f5.length ∧ b.f5.length ≤ 6) : Calls Tryd.prog 62 #[.agg #[.bool b.f0, .bool b.f1, .int .i64 b.f2, .int .i64 b.f3, .int .i64 b.f4, .slice A b.f5.length c]] w fun e w' => e = .returned (.int .i64 (lastOf b)) ∧ Below w.heap.size w w' :=
  spec_l12Last.calls _ _ _ _ _ A c b.f5 _ w hr hc (by
    unfold spec_l12Last.f lastOf
    simp only [w64 (a := (b.f5.length : Int) - 1) (by omega) (by omega), if_pos (show (0 : Int) ≤ (b.f5.length : Int) - 1 by omega), if_pos (show (b.f5.length : Int) - 1 < (b.f5.length : Int) by omega), if_pos (show (0 : Int) < (b.f5.length : Int) by omega)])
set_option maxRecDepth 100000 in
set_option maxHeartbeats 4000000 in
theorem speclog_q (l : List S84) (A : Option Addr) (c : Nat) (w : World) (hr : Kd.C k84 w A l.length l) (hc : l.length ≤ c) :
    Calls Tryd.prog 28 #[.slice A l.length c] w fun e w' => e = .returned (.bool (logOk l)) ∧ Below w.heap.size w w' := by
  have hl := hr.2.1
  unfold logOk
  have HR := Aside0.mk hr
  clear hr
  go_enter Tryd.func28, Tryd.ntmps28
  go_wp2
  go_loopw [3] (fun v3 wr => ∃ i : Nat, v3 = .int .i64 i ∧ i ≤ l.length ∧ (∀ j, j < i → batStep l j = true) ∧ Below w.heap.size w wr) (fun v3 _ => l.length - (intOf v3).toNat)
  case atStart => exact ⟨0, rfl, Nat.zero_le _, fun j hj => absurd hj (Nat.not_lt_zero j), Below.refl _ _⟩
  case round =>
    obtain ⟨i, rfl, hi, hall, hB1⟩ := hrel
    by_cases hlt : i < l.length
    · obtain ⟨ad, A5, c5, rfl, e0, e1, e2, e3, e4, e5, l5, g5⟩ := at_T84 (Kd.C_below HR.out hB1) (i : Int) (by omega) (by omega)
      rw [show ((i : Int)).toNat = i from rfl] at e0 e1 e2 e3 e4 e5
      have hrec : batStep l i = (batOk (rd_T84 l (i : Int)) && (decide (i = 0) || decide (lastOf (rd_T84 l ((i : Int) - 1)) < firstOf (rd_T84 l (i : Int))))) := rfl
      generalize rd_T84 l (i : Int) = bi at *
      have ci : CellsB wr (ad.add (i * 6)) bi A5 c5 := ⟨e0, e1, e2, e3, e4, e5⟩
      clear e0 e1 e2 e3 e4 e5
      go_wp2
      have HRC := Aside0.mk (fun (W2 : World) (hb : Below wr.heap.size wr W2) => specbat_q bi A5 c5 W2 (Kd.C_below g5 hb) l5)
      have kS : ∀ w' : World, Below wr.drew.heap.size wr.drew w' → CellsB w' (ad.add (i * 6)) bi A5 c5 ∧ Below wr.heap.size wr w' := fun w' h => ⟨ci.below (below_step (below_drew (Below.refl _ wr)) h), below_step (below_drew (Below.refl _ wr)) h⟩
      have hil : (i : Int) < (l.length : Int) := by omega
      rcases hok : batOk bi with _ | _ <;> rw [hok] at HRC
      · have hno := Aside0.mk (logs_no hlt (hrec.trans (by rw [hok]; rfl)))
        refine r_begin (fun w' => CellsB w' (ad.add (i * 6)) bi A5 c5 ∧ Below wr.heap.size wr w') 27 (by kernel_rfl) rfl (kS _ (Below.refl _ _)) (fun hH => ?_)
        repeat (first | (refine r_skip (by kernel_rfl) (by rfl) (fun _ _ _ h => h) hH ?_; simp only [Act.put, List.setIfInBounds_toArray, List.set_cons_zero, List.set_cons_succ, Nat.reduceAdd]) | (refine r_go (v := ?_) (by kernel_rfl) (by rfl) (fun _ _ _ h => h) hH ?_ ?_; rotate_left; (focus (intro w hS; obtain ⟨⟨e0, e1, e2, e3, e4, e5⟩, e6⟩ := hS; go_simp; first | done | with_reducible rfl)); simp only [Act.put, List.setIfInBounds_toArray, List.set_cons_zero, List.set_cons_succ, Nat.reduceAdd]) | (fail "x"))
        refine r_one (by kernel_rfl) (by rfl) (fun K hK => ?_)
        go_simp
        go_at_call 61
        refine (HRC.out _ hH.2).mono ?_
        rintro e w2 ⟨rfl, hb⟩
        go_wp2_with fail
        refine hK.out _ _ (kS _ hb) (fun hH => ?_)
        clear hK K
        simp only [Act.put, List.setIfInBounds_toArray, List.set_cons_zero, List.set_cons_succ, Nat.reduceAdd]
        repeat (first | (refine r_skip (by kernel_rfl) (by rfl) (fun _ _ _ h => h) hH ?_; simp only [Act.put, List.setIfInBounds_toArray, List.set_cons_zero, List.set_cons_succ, Nat.reduceAdd]) | (refine r_go (v := ?_) (by kernel_rfl) (by rfl) (fun _ _ _ h => h) hH ?_ ?_; rotate_left; (focus (intro w hS; obtain ⟨⟨e0, e1, e2, e3, e4, e5⟩, e6⟩ := hS; go_simp; first | done | with_reducible rfl)); simp only [Act.put, List.setIfInBounds_toArray, List.set_cons_zero, List.set_cons_succ, Nat.reduceAdd]) | (fail "x"))
        refine r_done (by kernel_rfl) ?_
        go_wp2
        go_ret
        exact ⟨by rw [hno.out]; rfl, below_step hB1 hH.2⟩
      · rcases i with _ | j
        · have ez : ad.add (0 * 6) = ad := by go_simp
          rw [ez] at ci
          simp only [ez] at kS
          refine r_begin (fun w' => CellsB w' ad bi A5 c5 ∧ Below wr.heap.size wr w') 27 (by kernel_rfl) rfl (kS _ (Below.refl _ _)) (fun hH => ?_)
          repeat (first | (refine r_skip (by kernel_rfl) (by rfl) (fun _ _ _ h => h) hH ?_; simp only [Act.put, List.setIfInBounds_toArray, List.set_cons_zero, List.set_cons_succ, Nat.reduceAdd]) | (refine r_go (v := ?_) (by kernel_rfl) (by rfl) (fun _ _ _ h => h) hH ?_ ?_; rotate_left; (focus (intro w hS; obtain ⟨⟨e0, e1, e2, e3, e4, e5⟩, e6⟩ := hS; go_simp; first | done | with_reducible rfl)); simp only [Act.put, List.setIfInBounds_toArray, List.set_cons_zero, List.set_cons_succ, Nat.reduceAdd]) | (fail "x"))
          refine r_one (by kernel_rfl) (by rfl) (fun K hK => ?_)
          go_simp
          go_at_call 61
          refine (HRC.out _ hH.2).mono ?_
          rintro e w2 ⟨rfl, hb⟩
          go_wp2_with fail
          refine hK.out _ _ (kS _ hb) (fun hH => ?_)
          clear hK K
          simp only [Act.put, List.setIfInBounds_toArray, List.set_cons_zero, List.set_cons_succ, Nat.reduceAdd]
          repeat (first | (refine r_skip (by kernel_rfl) (by rfl) (fun _ _ _ h => h) hH ?_; simp only [Act.put, List.setIfInBounds_toArray, List.set_cons_zero, List.set_cons_succ, Nat.reduceAdd]) | (refine r_go (v := ?_) (by kernel_rfl) (by rfl) (fun _ _ _ h => h) hH ?_ ?_; rotate_left; (focus (intro w hS; obtain ⟨⟨e0, e1, e2, e3, e4, e5⟩, e6⟩ := hS; go_simp; first | done | with_reducible rfl)); simp only [Act.put, List.setIfInBounds_toArray, List.set_cons_zero, List.set_cons_succ, Nat.reduceAdd]) | (fail "x"))
          refine r_done (by kernel_rfl) ?_
          go_wp2
          go_roundw
          case rel =>
            have hst : ∀ j, j < 0 + 1 → batStep l j = true := by
              intro j hj
              obtain rfl : j = 0 := by omega
              exact hrec.trans (by rw [hok]; rfl)
            first | exact ⟨0 + 1, by simp, hlt, hst, below_step hB1 hH.2⟩ | ((repeat apply Exists.intro); refine ⟨⟨0 + 1, ?_, hlt, hst, below_step hB1 hH.2⟩, by first | rfl | (repeat' apply And.intro) <;> rfl⟩; simp)
          case measure => simp [intOf]; omega
        · obtain ⟨ad2, A4, c4, hq, f0, f1, f2, f3, f4, f5, l4, g4⟩ := at_T84 (Kd.C_below HR.out hB1) (j : Int) (by omega) (by omega)
          cases hq
          rw [show ((j : Int)).toNat = j from rfl] at f0 f1 f2 f3 f4 f5
          have hjs := hall j (by omega)
          have hrec2 : batStep l (j + 1) = (batOk bi && (decide (j + 1 = 0) || decide (lastOf (rd_T84 l (j : Int)) < firstOf bi))) := by
            rw [hrec, show ((j + 1 : Nat) : Int) - 1 = (j : Int) by omega]
          unfold batStep at hjs
          have hbj := (Bool.and_eq_true_iff.1 hjs).1
          clear hjs
          generalize rd_T84 l (j : Int) = bj at *
          have hnj := batOk_len hbj
          have hni := batOk_len hok
          have cj : CellsB wr (ad.add (j * 6)) bj A4 c4 := ⟨f0, f1, f2, f3, f4, f5⟩
          obtain ⟨ad5, _, _, _, _, rfl, k0, _⟩ := at_T25 g5 0 (by omega) (by omega)
          change wr.cell? (ad5.add (0 * 6)) = some (.int .i64 (firstOf bi)) at k0
          have ez : ad5.add (0 * 6) = ad5 := by go_simp
          rw [ez] at k0
          have hwj : IntKind.i64.wrap (j : Int) = (j : Int) := by rw [i64_w]; unfold wrap64; omega
          have hjl : (j : Int) < (l.length : Int) := by omega
          have hjl1 : (j : Int) + 1 < (l.length : Int) := by omega
          have hj0 : (0 : Int) ≤ (j : Int) + 1 := by omega
          have htn : ((j : Int) + 1).toNat = j + 1 := by omega
          have hn0 : 0 < bi.f5.length := by omega
          have HL := Aside0.mk (fun (W2 : World) (hb : Below wr.heap.size wr W2) => slast_q bj A4 c4 W2 (Kd.C_below g4 hb) l4 hnj)
          have kS2 : ∀ w' : World, Below wr.heap.size wr w' → CellsB w' (ad.add ((j + 1) * 6)) bi (some ad5) c5 ∧ CellsB w' (ad.add (j * 6)) bj A4 c4 ∧ w'.cell? ad5 = some (.int .i64 (firstOf bi)) ∧ Below wr.heap.size wr w' := fun w' h => ⟨ci.below h, cj.below h, pw_cell_below h k0, h⟩
          have hno := Aside0.mk hrec2
          clear hrec hrec2
          clear f0 f1 f2 f3 f4 f5 kS
          go_region_held3 (fun w' => (w'.cell? (ad.add ((j + 1) * 6)) = some (.bool bi.f0) ∧ w'.cell? ⟨(ad.add ((j + 1) * 6)).block, (ad.add ((j + 1) * 6)).off + 1, none⟩ = some (.bool bi.f1) ∧ w'.cell? ⟨(ad.add ((j + 1) * 6)).block, (ad.add ((j + 1) * 6)).off + 2, none⟩ = some (.int .i64 bi.f2) ∧ w'.cell? ⟨(ad.add ((j + 1) * 6)).block, (ad.add ((j + 1) * 6)).off + 3, none⟩ = some (.int .i64 bi.f3) ∧ w'.cell? ⟨(ad.add ((j + 1) * 6)).block, (ad.add ((j + 1) * 6)).off + 4, none⟩ = some (.int .i64 bi.f4) ∧ w'.cell? ⟨(ad.add ((j + 1) * 6)).block, (ad.add ((j + 1) * 6)).off + 5, none⟩ = some (.slice (some ad5) bi.f5.length c5)) ∧ (w'.cell? (ad.add (j * 6)) = some (.bool bj.f0) ∧ w'.cell? ⟨(ad.add (j * 6)).block, (ad.add (j * 6)).off + 1, none⟩ = some (.bool bj.f1) ∧ w'.cell? ⟨(ad.add (j * 6)).block, (ad.add (j * 6)).off + 2, none⟩ = some (.int .i64 bj.f2) ∧ w'.cell? ⟨(ad.add (j * 6)).block, (ad.add (j * 6)).off + 3, none⟩ = some (.int .i64 bj.f3) ∧ w'.cell? ⟨(ad.add (j * 6)).block, (ad.add (j * 6)).off + 4, none⟩ = some (.int .i64 bj.f4) ∧ w'.cell? ⟨(ad.add (j * 6)).block, (ad.add (j * 6)).off + 5, none⟩ = some (.slice A4 bj.f5.length c4)) ∧ w'.cell? ad5 = some (.int .i64 (firstOf bi)) ∧ Below wr.heap.size wr w') (first | exact kS2 _ (below_drew (Below.refl _ _)) | assumption | exact kS2 _ (below_step (below_drew (Below.refl _ _)) ‹_›) | exact kS2 _ (below_step (by have hq := ‹_ ∧ _ ∧ _ ∧ Below wr.heap.size wr _›; exact hq.2.2.2) ‹_›))
            (first | (go_at_call 61; refine (HRC.out _ (by first | exact below_drew (Below.refl _ _) | exact (‹_ ∧ _ ∧ _ ∧ Below wr.heap.size wr _›).2.2.2)).mono ?_; rintro e w' ⟨rfl, hb⟩) | (go_at_call 62; refine (HL.out _ (by first | exact below_drew (Below.refl _ _) | exact (‹_ ∧ _ ∧ _ ∧ Below wr.heap.size wr _›).2.2.2)).mono ?_; rintro e w' ⟨rfl, hb⟩))
          all_goals
            have hBw := below_step hB1 (‹_ ∧ _ ∧ _ ∧ Below wr.heap.size wr _›).2.2.2
            by_cases hc : lastOf bj < firstOf bi
            · have hst : ∀ j', j' < j + 1 + 1 → batStep l j' = true := by
                intro j' hj
                by_cases h' : j' < j + 1
                · exact hall j' h'
                · obtain rfl : j' = j + 1 := by omega
                  rw [hno.out, hok, decide_eq_true hc, Bool.or_true]; rfl
              have hng : ¬ firstOf bi ≤ lastOf bj := by omega
              go_wp2
              go_roundw
              case rel => first | exact ⟨j + 1 + 1, by simp, hlt, hst, hBw⟩ | ((repeat apply Exists.intro); refine ⟨⟨j + 1 + 1, ?_, hlt, hst, hBw⟩, by first | rfl | (repeat' apply And.intro) <;> rfl⟩; simp)
              case measure => simp [intOf]; omega
            · have hn2 := Aside0.mk (logs_no hlt (hno.out.trans (by rw [hok, decide_eq_false hc, decide_eq_false (show ¬ j + 1 = 0 by omega)]; rfl)))
              have hng : firstOf bi ≤ lastOf bj := by omega
              go_wp2
              go_ret
              exact ⟨by rw [hn2.out]; rfl, hBw⟩
    · obtain rfl : i = l.length := by omega
      go_wp2
      go_ret
      exact ⟨by rw [logs_of hall]; rfl, hB1⟩
def spec_LogValid.f (k : Nat) (a0 : List S84) : Option Bool := some (logOk a0)
theorem spec_LogValid.calls (k : Nat) (A0 : Option Addr) (c0 : Nat) (l0 : List (S84)) (r : Bool) (w : World) (hr0 : Kd.C k84 w A0 l0.length l0) (hc0 : l0.length ≤ c0) (h : spec_LogValid.f k l0 = some r) :
    Calls Tryd.prog 28 #[.slice A0 l0.length c0] w fun e w' => e = .returned (.bool r) ∧ Below w.heap.size w w' := by
  obtain rfl := Option.some.inj h
  exact speclog_q l0 A0 c0 w hr0 hc0
end Go.Proofs.YteoicjlhkaljbaaDoor.G

namespace Go.Proofs.YteoicjlhkaljbaaDoor.G
open Go.RowKit Go.Proofs.YteoicjlhkaljbaaDoorW.PrintWords Go.Proofs.YteoicjlhkaljbaaDoorW.PrintLast Go.Proofs.YteoicjlhkaljbaaDoorW.PrintMore
attribute [local go_sem] max2_int min2_int max_two min_two max_three min_three max_four min_four   -- for this text's walks alone
set_option linter.unusedVariables false
set_option linter.unusedSimpArgs false

def spec_l6Dec.f : Nat → Int → Option (ByteArray)
 | 0, _ => none
 | k + 1, a0 => if a0 < (-9223372036854775807) then (some (⟨#[45, 57, 50, 50, 51, 51, 55, 50, 48, 51, 54, 56, 53, 52, 55, 55, 53, 56, 48, 56]⟩ : ByteArray)) else (if a0 < 0 then ((spec_l6Dec.f k (wrap64 (-a0))).bind fun t222 => (if 1 + t222.size ≤ 9223372036854775807 then (some ((⟨#[45]⟩ : ByteArray) ++ t222)) else (none))) else (if a0 < 10 then (some (strOfNums (([(wrap64 (48 + a0)) % 256] : List Int)))) else ((spec_l6Dec.f k (wrap64 (Int.tdiv a0 10))).bind fun t226 => ((some (([(wrap64 (48 + (Int.tmod a0 10))) % 256] : List Int) : List Int)).bind fun y227 => (if t226.size + (strOfNums y227).size ≤ 9223372036854775807 then (some (t226 ++ (strOfNums y227))) else (none))))))
def spec_l6Dec.T7 : Bool × List (List Nat × List Nat) := (true, [([], []), ([0], [0]), ([1], [1]), ([], []), ([3], [3]), ([4], [4]), ([5], [5]), ([6], [6]), ([7], [7]), ([2, 8], [2, 8]), ([9, 2, 0, 1, 2, 3, 4, 5, 6, 7, 8, 9], [9])])
def spec_l6Dec.B7 : List Nat := [0, 1, 3, 0, 8, 24, 56, 120, 248, 511, 1023]
theorem spec_l6Dec.tab7 : rtab .any (opsOf Tryd.f72 7) = spec_l6Dec.T7 := by kernel_rfl
theorem spec_l6Dec.bits7 : waitsOk spec_l6Dec.T7.2 spec_l6Dec.B7 = true := by kernel_rfl
set_option maxHeartbeats 8000000 in
set_option maxRecDepth 100000 in
theorem spec_l6Dec.calls (k : Nat) : ∀ (a0 : Int) (r : ByteArray) (w : World) (h : spec_l6Dec.f k a0 = some r),
  Calls Tryd.prog 72 #[.int .i64 a0] w fun e w' => e = .returned (.string r) ∧ Below w.heap.size w w' := by
 induction k using Nat.strongRecOn with
 | _ k ih =>
 intro a0 r w h
 cases k with
 | zero => exact absurd h (by simp [spec_l6Dec.f])
 | succ k =>
 simp only [spec_l6Dec.f] at h
 have HB := Aside0.mk (Below.refl w.heap.size w)
 have H : (if a0 < (-9223372036854775807) then (some (⟨#[45, 57, 50, 50, 51, 51, 55, 50, 48, 51, 54, 56, 53, 52, 55, 55, 53, 56, 48, 56]⟩ : ByteArray)) else (if a0 < 0 then ((spec_l6Dec.f k (wrap64 (-a0))).bind fun t222 => (if 1 + t222.size ≤ 9223372036854775807 then (some ((⟨#[45]⟩ : ByteArray) ++ t222)) else (none))) else (if a0 < 10 then (some (strOfNums (([(wrap64 (48 + a0)) % 256] : List Int)))) else ((spec_l6Dec.f k (wrap64 (Int.tdiv a0 10))).bind fun t226 => ((some (([(wrap64 (48 + (Int.tmod a0 10))) % 256] : List Int) : List Int)).bind fun y227 => (if t226.size + (strOfNums y227).size ≤ 9223372036854775807 then (some (t226 ++ (strOfNums y227))) else (none))))))) = some r := h
 clear h
 by_cases c2 : a0 < (-9223372036854775807)
 ·rw [if_pos c2] at H
  have c2b0 : decide (a0 < (-9223372036854775807)) = true := decide_eq_true c2
  clear c2
  obtain rfl := Option.some.inj H
  go_enter Tryd.func72, Tryd.ntmps72
  go_wp2
  go_ret
  exact ⟨by first | rfl | (simp [errW_none, errW_some] <;> rfl) | (simp [*, errW_none, errW_some] <;> rfl), zb⟩
 ·rw [if_neg c2] at H
  have c2b0 : decide (a0 < (-9223372036854775807)) = false := decide_eq_false c2
  clear c2
  by_cases c3 : a0 < 0
  ·rw [if_pos c3] at H
   have c3b0 : decide (a0 < 0) = true := decide_eq_true c3
   clear c3
   replace H := tbe H
   obtain ⟨t222, A4, H⟩ := H
   by_cases c5 : 1 + t222.size ≤ 9223372036854775807
   ·rw [if_pos c5] at H
    have c5b0 := eq_true c5
    have c5b1 : decide (1 + t222.size ≤ 9223372036854775807) = true := decide_eq_true c5
    try have c5b2 : (9223372036854775807 < 1 + t222.size) = False := eq_false (Nat.not_lt.2 c5)
    obtain rfl := Option.some.inj H
    go_enter Tryd.func72, Tryd.ntmps72
    go_wp2_with (first | ((with_reducible refine gate_callee (f := 72) rfl ?_); refine goesL_ (some 9) rfl rfl Tryd.func72 (by kernel_rfl) rfl #[.int .i64 (wrap64 (-a0))] rfl tq ?_; (with_reducible refine (ih k (by omega) (wrap64 (-a0)) t222 _ A4.out).mono ?_); rintro e w6 ⟨rfl, hb⟩; refine ⟨_, rfl, ?_⟩; replace HB := tBs HB hb; (try clear hb); (try clear hb2); (try clear hk); (try clear hi)))
    go_ret
    exact ⟨by first | rfl | (simp [errW_none, errW_some] <;> rfl) | (simp [*, errW_none, errW_some] <;> rfl), zb⟩
   ·rw [if_neg c5] at H
    exact absurd H (by simp)
  ·rw [if_neg c3] at H
   have c3b0 : decide (a0 < 0) = false := decide_eq_false c3
   clear c3
   by_cases c7 : a0 < 10
   ·rw [if_pos c7] at H
    have c7b0 : decide (a0 < 10) = true := decide_eq_true c7
    clear c7
    obtain ⟨y223, hy223⟩ : ∃ y_ : List Int, y_ = (([(wrap64 (48 + a0)) % 256] : List Int)) := ⟨_, rfl⟩
    replace H : (some (strOfNums y223)) = some r := by first | (rw [hy223]; with_reducible exact H) | (have H2_ := (Option.bind_some _ _).symm.trans H; rw [hy223]; with_reducible exact H2_) | (have H2_ := (Option.bind_some _ _).symm.trans H; with_reducible exact H2_) | with_reducible exact H | (rw [hy223]; exact H) | exact H
    have Ny223 := Aside0.mk hy223
    clear hy223
    obtain rfl := Option.some.inj H
    go_enter Tryd.func72, Tryd.ntmps72
    go_wp2_with (first | ((with_reducible refine gate_dst (N := 16) rfl ?_); refine Kd.R_lit (Kd.int .u8) _ 5 ?hg (N := 16) ?hd (xs := ([(wrap64 (48 + a0)) % 256] : List Int)) (inner := [.int .u8 ((wrap64 (48 + a0)) % 256)]) (ok := fun _ => True) (okp := fun _ => True) ?hr ?hp (fun _ hk => hk) trivial (Below.refl _ _) (Nat.le_refl _) (by simp) ?_; (case hd => rfl); (case hg => rfl); (case hr => first | (go_simp; done) | (go_simp; rfl)); (case hp => exact (Reps.one (show Kd.M (Kd.int .u8) _ _ _ ((wrap64 (48 + a0)) % 256) [.int .u8 ((wrap64 (48 + a0)) % 256)] from rfl) (Reps.none _ _))); intro v224 w8 ho9 hb hg_ hnew_; clear hg_ hnew_; (first | rw [← Ny223.out] at ho9 | (simp only [Int.reduceToNat] at ho9; rw [← Ny223.out] at ho9)); have HO225 := tRl ho9 HB; replace HB := tBs HB hb; clear hb ho9; have hcv10 := own_string (P := Tryd.prog) Tryd.underlying22 Tryd.underlying5 Tryd.underlying9 (Kd.own_of_R HO225.out)))
    go_ret
    exact ⟨by first | rfl | (simp [errW_none, errW_some] <;> rfl) | (simp [*, errW_none, errW_some] <;> rfl), zb⟩
   ·rw [if_neg c7] at H
    have c7b0 : decide (a0 < 10) = false := decide_eq_false c7
    clear c7
    replace H := tbe H
    obtain ⟨t226, A11, H⟩ := H
    obtain ⟨y227, hy227⟩ : ∃ y_ : List Int, y_ = (([(wrap64 (48 + (Int.tmod a0 10))) % 256] : List Int)) := ⟨_, rfl⟩
    replace H : (if t226.size + (strOfNums y227).size ≤ 9223372036854775807 then (some (t226 ++ (strOfNums y227))) else (none)) = some r := by first | (rw [hy227]; with_reducible exact H) | (have H2_ := (Option.bind_some _ _).symm.trans H; rw [hy227]; with_reducible exact H2_) | (have H2_ := (Option.bind_some _ _).symm.trans H; with_reducible exact H2_) | with_reducible exact H | (rw [hy227]; exact H) | exact H
    have Ny227 := Aside0.mk hy227
    clear hy227
    by_cases c12 : t226.size + (strOfNums y227).size ≤ 9223372036854775807
    ·rw [if_pos c12] at H
     have c12b0 := eq_true c12
     have c12b1 : decide (t226.size + (strOfNums y227).size ≤ 9223372036854775807) = true := decide_eq_true c12
     try have c12b2 : (9223372036854775807 < t226.size + (strOfNums y227).size) = False := eq_false (Nat.not_lt.2 c12)
     obtain rfl := Option.some.inj H
     go_enter Tryd.func72, Tryd.ntmps72
     try go_wp2
     replace HB := Aside0.mk (below_drew1 HB.out)
     refine start_ (n := 11) (S := fun w' => True) (ds := []) #[false, false, false, false, false, false, false, false, false, false, false] (by kernel_rfl) rfl rfl trivial (fun hHeld => ?_); refine with_tabW spec_l6Dec.tab7 spec_l6Dec.bits7 (fun HT_ HW_ => ?_)
     generalize w.drew = w13 at HB hHeld ⊢
     refine tpu 0 (some 18) #[true, false, false, false, false, false, false, false, false, false, false] ?_
     refine tpu 1 (some 19) #[true, true, false, false, false, false, false, false, false, false, false] ?_
     refine tpu 3 (some 21) #[true, true, false, true, false, false, false, false, false, false, false] ?_
     refine tpu 4 (some 22) #[true, true, false, true, true, false, false, false, false, false, false] ?_
     refine tpu 5 (some 23) #[true, true, false, true, true, true, false, false, false, false, false] ?_
     refine tpu 6 (some 24) #[true, true, false, true, true, true, true, false, false, false, false] ?_
     refine join_ (σ := Value) 2 #[true, true, true, true, true, true, true, true, true, false, false] (fun s_ => [(20, .string t226), (25, s_), (26, .string (strOfNums y227))]) (fun s_ w' => (Kd.R (Kd.int .u8) 5 w' w.heap.size (fun _ => True) s_ y227) ∧ (Below w.heap.size w w')) ?_ ?_
     rotate_left
     ·intro hCont
      refine two_ (i := 2) (j := 7) (Ni := some 20) (Nj := some 25) #[true, true, true, true, true, true, true, false, false, false, false] #[true, true, false, true, true, true, true, true, false, false, false] rfl rfl rfl rfl (two_of HT_.out (by kernel_rfl)) (by decide) (by decide) (fun K hK => ?_) (fun K hK => ?_)
      ·skip
       refine goes_ Tryd.func72 (by kernel_rfl) rfl #[.int .i64 (wrap64 (Int.tdiv a0 10))] (by rfl) rfl rfl tq ?_
       with_reducible refine (ih k (by omega) (wrap64 (Int.tdiv a0 10)) t226 _ A11.out).mono ?_
       rintro e w14 ⟨rfl, hb⟩
       refine ⟨_, rfl, ?_⟩
       replace HB := tBs HB hb
       (try clear hb)
       (try clear hb2)
       (try clear hk)
       (try clear hi)
       refine hK.out _ _ trivial (fun hHeld => ?_)
       clear hK K
       refine tnm (some 20) ?_
       refine one_ (i := 7) (N := some 25) #[true, true, true, true, true, true, true, true, false, false, false] rfl rfl (one_of HT_.out (by kernel_rfl)) (by decide) (fun K hK => ?_)
       refine Kd.R_lit_step (Kd.int .u8) _ 5 ?hg (N := 25) ?hd (xs := ([(wrap64 (48 + (Int.tmod a0 10))) % 256] : List Int)) (inner := [.int .u8 ((wrap64 (48 + (Int.tmod a0 10))) % 256)]) (ok := fun _ => True) (okp := fun _ => True) ?hr ?hp (fun _ hk => hk) trivial (Below.refl _ _) (Nat.le_refl _) (by simp) ?_; (case hd => rfl); (case hg => rfl); (case hr => first | (go_simp; done) | (go_simp; rfl)); (case hp => exact (Reps.one (show Kd.M (Kd.int .u8) _ _ _ ((wrap64 (48 + (Int.tmod a0 10))) % 256) [.int .u8 ((wrap64 (48 + (Int.tmod a0 10))) % 256)] from rfl) (Reps.none _ _)))
       intro v228 w15 ho16 hb hg_ hnew_
       clear hg_ hnew_
       (first | rw [← Ny227.out] at ho16 | (simp only [Int.reduceToNat] at ho16; rw [← Ny227.out] at ho16))
       have HO229 := tRl ho16 HB
       replace HB := tBs HB hb
       clear hb ho16
       refine hK.out _ _ trivial (fun hHeld => ?_)
       clear hK K
       refine tnm (some 25) ?_
       refine one_ (i := 8) (N := some 26) #[true, true, true, true, true, true, true, true, true, false, false] rfl rfl (one_of HT_.out (by kernel_rfl)) (by decide) (fun K hK => ?_)
       have hcv17 := own_string (P := Tryd.prog) Tryd.underlying22 Tryd.underlying5 Tryd.underlying9 (Kd.own_of_R HO229.out)
       refine value_ (w1 := ?_) (v := ?_) (by rfl) rfl ?_ ?_
       rotate_left 2
       ·go_simp
        constructor
        ·rfl
        ·rfl
       clear hcv17
       refine hK.out _ _ trivial (fun hHeld => ?_)
       clear hK K
       refine tnm (some 26) ?_
       exact tnx (hCont (v228) _ ⟨(tR HO229.out), zb⟩)
      ·skip
       refine Kd.R_lit_step (Kd.int .u8) _ 5 ?hg (N := 25) ?hd (xs := ([(wrap64 (48 + (Int.tmod a0 10))) % 256] : List Int)) (inner := [.int .u8 ((wrap64 (48 + (Int.tmod a0 10))) % 256)]) (ok := fun _ => True) (okp := fun _ => True) ?hr ?hp (fun _ hk => hk) trivial (Below.refl _ _) (Nat.le_refl _) (by simp) ?_; (case hd => rfl); (case hg => rfl); (case hr => first | (go_simp; done) | (go_simp; rfl)); (case hp => exact (Reps.one (show Kd.M (Kd.int .u8) _ _ _ ((wrap64 (48 + (Int.tmod a0 10))) % 256) [.int .u8 ((wrap64 (48 + (Int.tmod a0 10))) % 256)] from rfl) (Reps.none _ _)))
       intro v228 w14 ho15 hb hg_ hnew_
       clear hg_ hnew_
       (first | rw [← Ny227.out] at ho15 | (simp only [Int.reduceToNat] at ho15; rw [← Ny227.out] at ho15))
       have HO229 := tRl ho15 HB
       replace HB := tBs HB hb
       clear hb ho15
       refine hK.out _ _ trivial (fun hHeld => ?_)
       clear hK K
       refine tnm (some 25) ?_
       refine two_ (i := 2) (j := 8) (Ni := some 20) (Nj := some 26) #[true, true, true, true, true, true, true, true, false, false, false] #[true, true, false, true, true, true, true, true, true, false, false] rfl rfl rfl rfl (two_of HT_.out (by kernel_rfl)) (by decide) (by decide) (fun K hK => ?_) (fun K hK => ?_)
       ·skip
        refine goes_ Tryd.func72 (by kernel_rfl) rfl #[.int .i64 (wrap64 (Int.tdiv a0 10))] (by rfl) rfl rfl tq ?_
        with_reducible refine (ih k (by omega) (wrap64 (Int.tdiv a0 10)) t226 _ A11.out).mono ?_
        rintro e w16 ⟨rfl, hb⟩
        refine ⟨_, rfl, ?_⟩
        replace HO229 := tRb HO229 hb
        replace HB := tBs HB hb
        (try clear hb)
        (try clear hb2)
        (try clear hk)
        (try clear hi)
        refine hK.out _ _ trivial (fun hHeld => ?_)
        clear hK K
        refine tnm (some 20) ?_
        refine one_ (i := 8) (N := some 26) #[true, true, true, true, true, true, true, true, true, false, false] rfl rfl (one_of HT_.out (by kernel_rfl)) (by decide) (fun K hK => ?_)
        have hcv17 := own_string (P := Tryd.prog) Tryd.underlying22 Tryd.underlying5 Tryd.underlying9 (Kd.own_of_R HO229.out)
        refine value_ (w1 := ?_) (v := ?_) (by rfl) rfl ?_ ?_
        rotate_left 2
        ·go_simp
         constructor
         ·rfl
         ·rfl
        clear hcv17
        refine hK.out _ _ trivial (fun hHeld => ?_)
        clear hK K
        refine tnm (some 26) ?_
        exact tnx (hCont (v228) _ ⟨(tR HO229.out), zb⟩)
       ·skip
        have hcv16 := own_string (P := Tryd.prog) Tryd.underlying22 Tryd.underlying5 Tryd.underlying9 (Kd.own_of_R HO229.out)
        refine value_ (w1 := ?_) (v := ?_) (by rfl) rfl ?_ ?_
        rotate_left 2
        ·go_simp
         constructor
         ·rfl
         ·rfl
        clear hcv16
        refine hK.out _ _ trivial (fun hHeld => ?_)
        clear hK K
        refine tnm (some 26) ?_
        refine one_ (i := 2) (N := some 20) #[true, true, true, true, true, true, true, true, true, false, false] rfl rfl (one_of HT_.out (by kernel_rfl)) (by decide) (fun K hK => ?_)
        refine goes_ Tryd.func72 (by kernel_rfl) rfl #[.int .i64 (wrap64 (Int.tdiv a0 10))] (by rfl) rfl rfl tq ?_
        with_reducible refine (ih k (by omega) (wrap64 (Int.tdiv a0 10)) t226 _ A11.out).mono ?_
        rintro e w17 ⟨rfl, hb⟩
        refine ⟨_, rfl, ?_⟩
        replace HO229 := tRb HO229 hb
        replace HB := tBs HB hb
        (try clear hb)
        (try clear hb2)
        (try clear hk)
        (try clear hi)
        refine hK.out _ _ trivial (fun hHeld => ?_)
        clear hK K
        refine tnm (some 20) ?_
        exact tnx (hCont (v228) _ ⟨(tR HO229.out), zb⟩)
     rintro v228 w18 ⟨h0_, h1_⟩
     have n0_ : Aside0 (Kd.R (Kd.int .u8) 5 w18 w.heap.size (fun _ => True) v228 y227) := ⟨h0_⟩
     have n1_ : Aside0 (Below w.heap.size w w18) := ⟨h1_⟩
     clear HB
     clear h0_ h1_
     have HO229 := n0_
     have HB := n1_
     clear n0_ n1_
     have hHeld := trivial
     refine tnp ?_
     refine tpu 9 (some 27) #[true, true, true, true, true, true, true, true, true, true, false] ?_
     refine tpu 10 (some 2) #[true, true, true, true, true, true, true, true, true, true, true] ?_
     refine done_ (done_of HT_.out (by kernel_rfl)) ?_
     try go_wp2
     go_ret
     exact ⟨by first | rfl | (simp [errW_none, errW_some] <;> rfl) | (simp [*, errW_none, errW_some] <;> rfl), zb⟩
    ·rw [if_neg c12] at H
     exact absurd H (by simp)

def spec_BytesText.l0 : Nat → List Int → ByteArray → ByteArray → Int → Option (ByteArray)
 | 0, _, _, _, _ => none
 | k + 1, x0, x3, x4, x5 => if x5 < (x0.length : Int) then ((spec_l1Ok.f k x0).bind fun t230 => (if t230 = true then (if 0 ≤ x5 then (if 0 ≤ (wrap64 (Int.tdiv (rd x0 x5) 16)) then (if (wrap64 (Int.tdiv (rd x0 x5) 16)) ≤ (wrap64 ((wrap64 (Int.tdiv (rd x0 x5) 16)) + 1)) then (if (wrap64 ((wrap64 (Int.tdiv (rd x0 x5) 16)) + 1)) ≤ (x3.size : Int) then (if x4.size + (x3.extract ((wrap64 (Int.tdiv (rd x0 x5) 16)) : Int).toNat ((wrap64 ((wrap64 (Int.tdiv (rd x0 x5) 16)) + 1)) : Int).toNat).size ≤ 9223372036854775807 then (if 0 ≤ (Int.tmod (rd x0 x5) 16) then (if (Int.tmod (rd x0 x5) 16) ≤ (wrap64 ((Int.tmod (rd x0 x5) 16) + 1)) then (if (wrap64 ((Int.tmod (rd x0 x5) 16) + 1)) ≤ (x3.size : Int) then (if (x4 ++ (x3.extract ((wrap64 (Int.tdiv (rd x0 x5) 16)) : Int).toNat ((wrap64 ((wrap64 (Int.tdiv (rd x0 x5) 16)) + 1)) : Int).toNat)).size + (x3.extract ((Int.tmod (rd x0 x5) 16) : Int).toNat ((wrap64 ((Int.tmod (rd x0 x5) 16) + 1)) : Int).toNat).size ≤ 9223372036854775807 then (spec_BytesText.l0 k x0 x3 ((x4 ++ (x3.extract ((wrap64 (Int.tdiv (rd x0 x5) 16)) : Int).toNat ((wrap64 ((wrap64 (Int.tdiv (rd x0 x5) 16)) + 1)) : Int).toNat)) ++ (x3.extract ((Int.tmod (rd x0 x5) 16) : Int).toNat ((wrap64 ((Int.tmod (rd x0 x5) 16) + 1)) : Int).toNat)) (wrap64 (x5 + 1))) else (none)) else (none)) else (none)) else (none)) else (none)) else (none)) else (none)) else (none)) else (none)) else (some x4))) else (some x4)
def spec_BytesText.f (k : Nat) (l0 : List Int) : Option (ByteArray) := spec_BytesText.l0 k l0 (⟨#[48, 49, 50, 51, 52, 53, 54, 55, 56, 57, 97, 98, 99, 100, 101, 102]⟩ : ByteArray) (⟨#[]⟩ : ByteArray) 0
set_option maxHeartbeats 8000000 in
set_option maxRecDepth 100000 in
theorem spec_BytesText.calls (k : Nat) (A0 : Option Addr) (c0 : Nat) (l0 : List Int) (r : ByteArray) (w : World) (hr0 : Kd.C (Kd.int .i64) w A0 l0.length l0) (hc0 : l0.length ≤ c0) (h : spec_BytesText.f k l0 = some r) :
  Calls Tryd.prog 95 #[.slice A0 l0.length c0] w fun e w' => e = .returned (.string r) ∧ Drawn0 w w' := by
 have HR0 := Aside0.mk hr0
 have HC0 := Aside0.mk hc0
 clear hr0 hc0
 have H : (spec_BytesText.l0 k l0 (⟨#[48, 49, 50, 51, 52, 53, 54, 55, 56, 57, 97, 98, 99, 100, 101, 102]⟩ : ByteArray) (⟨#[]⟩ : ByteArray) 0) = some r := h
 clear h
 have H' := Aside0.mk H
 clear H
 go_enter Tryd.func95, Tryd.ntmps95
 go_wp2
 repeat (go_quiet (fail); try go_wp2)
 obtain ⟨dg, hdg⟩ : ∃ d : ByteArray, d = (⟨#[48, 49, 50, 51, 52, 53, 54, 55, 56, 57, 97, 98, 99, 100, 101, 102]⟩ : ByteArray) := ⟨_, rfl⟩
 rw [← hdg] at H' ⊢
 have HDG := Aside0.mk hdg
 clear hdg
 go_loopg [4, 5] k (fun kq v4 v5 w' => ∃ (x4_1 : ByteArray) (x5_1 : Int), v4 = .string x4_1 ∧ v5 = .int .i64 x5_1 ∧ Aside0 (spec_BytesText.l0 kq l0 dg x4_1 x5_1 = some r) ∧ Aside0 (kq ≤ k) ∧ Drawn0 w w')
 case atStart => exact ⟨((⟨#[]⟩ : ByteArray)), (0), tr, tr, H', ⟨Nat.le_refl _⟩, by repeat (first | exact Drawn0.refl _ | apply Drawn0.step)⟩
 case round =>
  clear H'
  obtain ⟨x4_1, x5_1, rfl, rfl, HA, HK1, ⟨m1, rfl⟩⟩ := hrel
  cases gk with
  | zero => exact absurd HA.out (by simp [spec_BytesText.l0])
  | succ k1 =>
   have H := HA.out
   clear HA
   simp only [spec_BytesText.l0] at H
   by_cases c2 : x5_1 < (l0.length : Int)
   ·rw [if_pos c2] at H
    have c2b0 : decide (x5_1 < (l0.length : Int)) = true := decide_eq_true c2
    clear c2
    replace H := tbe H
    obtain ⟨t230, A3, H⟩ := H
    by_cases c4 : t230 = true
    ·subst c4
     rw [if_pos rfl] at H
     by_cases c5 : 0 ≤ x5_1
     ·rw [if_pos c5] at H
      have c5b0 : decide (0 ≤ x5_1) = true := decide_eq_true c5
      clear c5
      obtain ⟨ji6, hji6⟩ : ∃ j_ : Int, (wrap64 (Int.tdiv (rd l0 x5_1) 16)) = j_ := ⟨_, rfl⟩
      replace H : (if 0 ≤ (ji6) then (if (ji6) ≤ (wrap64 ((ji6) + 1)) then (if (wrap64 ((ji6) + 1)) ≤ (dg.size : Int) then (if x4_1.size + (dg.extract ((ji6) : Int).toNat ((wrap64 ((ji6) + 1)) : Int).toNat).size ≤ 9223372036854775807 then (if 0 ≤ (Int.tmod (rd l0 x5_1) 16) then (if (Int.tmod (rd l0 x5_1) 16) ≤ (wrap64 ((Int.tmod (rd l0 x5_1) 16) + 1)) then (if (wrap64 ((Int.tmod (rd l0 x5_1) 16) + 1)) ≤ (dg.size : Int) then (if (x4_1 ++ (dg.extract ((ji6) : Int).toNat ((wrap64 ((ji6) + 1)) : Int).toNat)).size + (dg.extract ((Int.tmod (rd l0 x5_1) 16) : Int).toNat ((wrap64 ((Int.tmod (rd l0 x5_1) 16) + 1)) : Int).toNat).size ≤ 9223372036854775807 then (spec_BytesText.l0 k1 l0 dg ((x4_1 ++ (dg.extract ((ji6) : Int).toNat ((wrap64 ((ji6) + 1)) : Int).toNat)) ++ (dg.extract ((Int.tmod (rd l0 x5_1) 16) : Int).toNat ((wrap64 ((Int.tmod (rd l0 x5_1) 16) + 1)) : Int).toNat)) (wrap64 (x5_1 + 1))) else (none)) else (none)) else (none)) else (none)) else (none)) else (none)) else (none)) else (none)) = some r := by first | (rw [hji6] at H; exact H) | (simp only [hji6] at H ⊢; exact H)
      (try rw [hji6] at A3)
      have hji6w : (IntKind.i64.wrap (Int.tdiv (rd l0 x5_1) 16)) = ji6 := (i64_w _).trans hji6
      by_cases c7 : 0 ≤ (ji6)
      ·rw [if_pos c7] at H
       have c7b0 := eq_true c7
       have c7b1 : decide (0 ≤ (ji6)) = true := decide_eq_true c7
       clear c7
       by_cases c8 : (ji6) ≤ (wrap64 ((ji6) + 1))
       ·rw [if_pos c8] at H
        have c8b0 := eq_true c8
        have c8b1 : decide ((ji6) ≤ (wrap64 ((ji6) + 1))) = true := decide_eq_true c8
        by_cases c9 : (wrap64 ((ji6) + 1)) ≤ (dg.size : Int)
        ·rw [if_pos c9] at H
         have c9b0 := eq_true c9
         have c9b1 : decide ((wrap64 ((ji6) + 1)) ≤ (dg.size : Int)) = true := decide_eq_true c9
         by_cases c10 : x4_1.size + (dg.extract ((ji6) : Int).toNat ((wrap64 ((ji6) + 1)) : Int).toNat).size ≤ 9223372036854775807
         ·rw [if_pos c10] at H
          have c10b0 := eq_true c10
          have c10b1 : decide (x4_1.size + (dg.extract ((ji6) : Int).toNat ((wrap64 ((ji6) + 1)) : Int).toNat).size ≤ 9223372036854775807) = true := decide_eq_true c10
          try have c10b2 : (9223372036854775807 < x4_1.size + (dg.extract ((ji6) : Int).toNat ((wrap64 ((ji6) + 1)) : Int).toNat).size) = False := eq_false (Nat.not_lt.2 c10)
          obtain ⟨ji11, hji11⟩ : ∃ j_ : Int, (Int.tmod (rd l0 x5_1) 16) = j_ := ⟨_, rfl⟩
          replace H : (if 0 ≤ (ji11) then (if (ji11) ≤ (wrap64 ((ji11) + 1)) then (if (wrap64 ((ji11) + 1)) ≤ (dg.size : Int) then (if (x4_1 ++ (dg.extract ((ji6) : Int).toNat ((wrap64 ((ji6) + 1)) : Int).toNat)).size + (dg.extract ((ji11) : Int).toNat ((wrap64 ((ji11) + 1)) : Int).toNat).size ≤ 9223372036854775807 then (spec_BytesText.l0 k1 l0 dg ((x4_1 ++ (dg.extract ((ji6) : Int).toNat ((wrap64 ((ji6) + 1)) : Int).toNat)) ++ (dg.extract ((ji11) : Int).toNat ((wrap64 ((ji11) + 1)) : Int).toNat)) (wrap64 (x5_1 + 1))) else (none)) else (none)) else (none)) else (none)) = some r := by first | (rw [hji11] at H; exact H) | (simp only [hji11] at H ⊢; exact H)
          (try rw [hji11] at A3)
          by_cases c12 : 0 ≤ (ji11)
          ·rw [if_pos c12] at H
           have c12b0 := eq_true c12
           have c12b1 : decide (0 ≤ (ji11)) = true := decide_eq_true c12
           clear c12
           by_cases c13 : (ji11) ≤ (wrap64 ((ji11) + 1))
           ·rw [if_pos c13] at H
            have c13b0 := eq_true c13
            have c13b1 : decide ((ji11) ≤ (wrap64 ((ji11) + 1))) = true := decide_eq_true c13
            by_cases c14 : (wrap64 ((ji11) + 1)) ≤ (dg.size : Int)
            ·rw [if_pos c14] at H
             have c14b0 := eq_true c14
             have c14b1 : decide ((wrap64 ((ji11) + 1)) ≤ (dg.size : Int)) = true := decide_eq_true c14
             by_cases c15 : (x4_1 ++ (dg.extract ((ji6) : Int).toNat ((wrap64 ((ji6) + 1)) : Int).toNat)).size + (dg.extract ((ji11) : Int).toNat ((wrap64 ((ji11) + 1)) : Int).toNat).size ≤ 9223372036854775807
             ·rw [if_pos c15] at H
              have c15b0 := eq_true c15
              have c15b1 : decide ((x4_1 ++ (dg.extract ((ji6) : Int).toNat ((wrap64 ((ji6) + 1)) : Int).toNat)).size + (dg.extract ((ji11) : Int).toNat ((wrap64 ((ji11) + 1)) : Int).toNat).size ≤ 9223372036854775807) = true := decide_eq_true c15
              try have c15b2 : (9223372036854775807 < (x4_1 ++ (dg.extract ((ji6) : Int).toNat ((wrap64 ((ji6) + 1)) : Int).toNat)).size + (dg.extract ((ji11) : Int).toNat ((wrap64 ((ji11) + 1)) : Int).toNat).size) = False := eq_false (Nat.not_lt.2 c15)
              (try (have c15y : (9223372036854775807 < x4_1.size + (dg.extract ((ji6) : Int).toNat ((wrap64 ((ji6) + 1)) : Int).toNat).size + ((dg.extract ((ji11) : Int).toNat ((wrap64 ((ji11) + 1)) : Int).toNat).size)) = False := eq_false (by have h_ := c15; simp only [ByteArray.size_append] at h_; omega)))
              have H' := Aside0.mk H
              clear H
              go_wp2_with (first | (go_at_call 94; (with_reducible refine (spec_l1Ok.calls k1 _ _ l0 true _ ?side1 ?side2 A3.out).mono ?_); (case side1 => exact tC HR0.out); (case side2 => exact HC0.out); rintro e w' ⟨rfl, ⟨nd, rfl⟩⟩; (try first | exact ⟨rfl, _, World.drewN_drewN _ _ _⟩ | exact ⟨rfl, _, Eq.trans (World.drewN_drewN _ _ _) (congrArg (World.drewN _) (Nat.add_assoc _ _ _))⟩); have p231 : 0 ≤ (x5_1 : Int) := td; have q231 : x5_1 < (l0.length : Int) := td; obtain ⟨ad231, e231, hx231_0⟩ := Kd.at_int HR0.out x5_1 p231 q231; cases e231; replace p231 := eq_true p231; replace q231 := eq_true q231; have p232 : 0 ≤ (x5_1 : Int) := td; have q232 : x5_1 < (l0.length : Int) := td; obtain ⟨ad232, e232, hx232_0⟩ := Kd.at_int HR0.out x5_1 p232 q232; obtain rfl : ad231 = ad232 := (by injection e232); replace p232 := eq_true p232; replace q232 := eq_true q232; have p233 : 0 ≤ (x5_1 : Int) := td; have q233 : x5_1 < (l0.length : Int) := td; obtain ⟨ad233, e233, hx233_0⟩ := Kd.at_int HR0.out x5_1 p233 q233; obtain rfl : ad231 = ad233 := (by injection e233); replace p233 := eq_true p233; replace q233 := eq_true q233; have p234 : 0 ≤ (x5_1 : Int) := td; have q234 : x5_1 < (l0.length : Int) := td; obtain ⟨ad234, e234, hx234_0⟩ := Kd.at_int HR0.out x5_1 p234 q234; obtain rfl : ad231 = ad234 := (by injection e234); replace p234 := eq_true p234; replace q234 := eq_true q234))
              repeat (go_quiet (first | (go_at_call 94; (with_reducible refine (spec_l1Ok.calls k1 _ _ l0 true _ ?side1 ?side2 A3.out).mono ?_); (case side1 => exact tC HR0.out); (case side2 => exact HC0.out); rintro e w' ⟨rfl, ⟨nd, rfl⟩⟩; (try first | exact ⟨rfl, _, World.drewN_drewN _ _ _⟩ | exact ⟨rfl, _, Eq.trans (World.drewN_drewN _ _ _) (congrArg (World.drewN _) (Nat.add_assoc _ _ _))⟩); have p231 : 0 ≤ (x5_1 : Int) := td; have q231 : x5_1 < (l0.length : Int) := td; obtain ⟨ad231, e231, hx231_0⟩ := Kd.at_int HR0.out x5_1 p231 q231; cases e231; replace p231 := eq_true p231; replace q231 := eq_true q231; have p232 : 0 ≤ (x5_1 : Int) := td; have q232 : x5_1 < (l0.length : Int) := td; obtain ⟨ad232, e232, hx232_0⟩ := Kd.at_int HR0.out x5_1 p232 q232; obtain rfl : ad231 = ad232 := (by injection e232); replace p232 := eq_true p232; replace q232 := eq_true q232; have p233 : 0 ≤ (x5_1 : Int) := td; have q233 : x5_1 < (l0.length : Int) := td; obtain ⟨ad233, e233, hx233_0⟩ := Kd.at_int HR0.out x5_1 p233 q233; obtain rfl : ad231 = ad233 := (by injection e233); replace p233 := eq_true p233; replace q233 := eq_true q233; have p234 : 0 ≤ (x5_1 : Int) := td; have q234 : x5_1 < (l0.length : Int) := td; obtain ⟨ad234, e234, hx234_0⟩ := Kd.at_int HR0.out x5_1 p234 q234; obtain rfl : ad231 = ad234 := (by injection e234); replace p234 := eq_true p234; replace q234 := eq_true q234)); try go_wp2_with (first | (go_at_call 94; (with_reducible refine (spec_l1Ok.calls k1 _ _ l0 true _ ?side1 ?side2 A3.out).mono ?_); (case side1 => exact tC HR0.out); (case side2 => exact HC0.out); rintro e w' ⟨rfl, ⟨nd, rfl⟩⟩; (try first | exact ⟨rfl, _, World.drewN_drewN _ _ _⟩ | exact ⟨rfl, _, Eq.trans (World.drewN_drewN _ _ _) (congrArg (World.drewN _) (Nat.add_assoc _ _ _))⟩); have p231 : 0 ≤ (x5_1 : Int) := td; have q231 : x5_1 < (l0.length : Int) := td; obtain ⟨ad231, e231, hx231_0⟩ := Kd.at_int HR0.out x5_1 p231 q231; cases e231; replace p231 := eq_true p231; replace q231 := eq_true q231; have p232 : 0 ≤ (x5_1 : Int) := td; have q232 : x5_1 < (l0.length : Int) := td; obtain ⟨ad232, e232, hx232_0⟩ := Kd.at_int HR0.out x5_1 p232 q232; obtain rfl : ad231 = ad232 := (by injection e232); replace p232 := eq_true p232; replace q232 := eq_true q232; have p233 : 0 ≤ (x5_1 : Int) := td; have q233 : x5_1 < (l0.length : Int) := td; obtain ⟨ad233, e233, hx233_0⟩ := Kd.at_int HR0.out x5_1 p233 q233; obtain rfl : ad231 = ad233 := (by injection e233); replace p233 := eq_true p233; replace q233 := eq_true q233; have p234 : 0 ≤ (x5_1 : Int) := td; have q234 : x5_1 < (l0.length : Int) := td; obtain ⟨ad234, e234, hx234_0⟩ := Kd.at_int HR0.out x5_1 p234 q234; obtain rfl : ad231 = ad234 := (by injection e234); replace p234 := eq_true p234; replace q234 := eq_true q234)))
              go_roundg k1
              case measure => have := HK1.out; omega
              case rel => exact ⟨((x4_1 ++ (dg.extract ((ji6) : Int).toNat ((wrap64 ((ji6) + 1)) : Int).toNat)) ++ (dg.extract ((ji11) : Int).toNat ((wrap64 ((ji11) + 1)) : Int).toNat)), (wrap64 (x5_1 + 1)), (by first | rfl | (simp; done) | (simp only [← hji6, ← hji11] <;> (first | rfl | simp)) | (simp [*]; done)), tr, H', ⟨by have := HK1.out; omega⟩, by repeat (first | exact Drawn0.refl _ | apply Drawn0.step)⟩
             ·rw [if_neg c15] at H
              exact absurd H (by simp)
            ·rw [if_neg c14] at H
             exact absurd H (by simp)
           ·rw [if_neg c13] at H
            exact absurd H (by simp)
          ·rw [if_neg c12] at H
           exact absurd H (by simp)
         ·rw [if_neg c10] at H
          exact absurd H (by simp)
        ·rw [if_neg c9] at H
         exact absurd H (by simp)
       ·rw [if_neg c8] at H
        exact absurd H (by simp)
      ·rw [if_neg c7] at H
       exact absurd H (by simp)
     ·rw [if_neg c5] at H
      exact absurd H (by simp)
    ·replace c4 := Bool.eq_false_iff.mpr c4
     subst c4
     rw [if_neg (show ¬ (false = true) by decide)] at H
     obtain rfl := Option.some.inj H
     go_wp2_with (first | (go_at_call 94; (with_reducible refine (spec_l1Ok.calls k1 _ _ l0 false _ ?side1 ?side2 A3.out).mono ?_); (case side1 => exact tC HR0.out); (case side2 => exact HC0.out); rintro e w' ⟨rfl, ⟨nd, rfl⟩⟩; (try first | exact ⟨rfl, _, World.drewN_drewN _ _ _⟩ | exact ⟨rfl, _, Eq.trans (World.drewN_drewN _ _ _) (congrArg (World.drewN _) (Nat.add_assoc _ _ _))⟩)))
     repeat (go_quiet (first | (go_at_call 94; (with_reducible refine (spec_l1Ok.calls k1 _ _ l0 false _ ?side1 ?side2 A3.out).mono ?_); (case side1 => exact tC HR0.out); (case side2 => exact HC0.out); rintro e w' ⟨rfl, ⟨nd, rfl⟩⟩; (try first | exact ⟨rfl, _, World.drewN_drewN _ _ _⟩ | exact ⟨rfl, _, Eq.trans (World.drewN_drewN _ _ _) (congrArg (World.drewN _) (Nat.add_assoc _ _ _))⟩))); try go_wp2_with (first | (go_at_call 94; (with_reducible refine (spec_l1Ok.calls k1 _ _ l0 false _ ?side1 ?side2 A3.out).mono ?_); (case side1 => exact tC HR0.out); (case side2 => exact HC0.out); rintro e w' ⟨rfl, ⟨nd, rfl⟩⟩; (try first | exact ⟨rfl, _, World.drewN_drewN _ _ _⟩ | exact ⟨rfl, _, Eq.trans (World.drewN_drewN _ _ _) (congrArg (World.drewN _) (Nat.add_assoc _ _ _))⟩))))
     go_ret
     exact ⟨by first | rfl | (simp; done) | (simp [*]; done), by repeat (first | exact Drawn0.refl _ | apply Drawn0.step)⟩
   ·rw [if_neg c2] at H
    have c2b0 : decide (x5_1 < (l0.length : Int)) = false := decide_eq_false c2
    clear c2
    obtain rfl := Option.some.inj H
    go_wp2
    repeat (go_quiet (fail); try go_wp2)
    go_ret
    exact ⟨by first | rfl | (simp; done) | (simp [*]; done), by repeat (first | exact Drawn0.refl _ | apply Drawn0.step)⟩

def spec_l41Part.f (k : Nat) (a0 : Bool) (l1 : List Int) : Option (ByteArray) := if a0 = true then ((spec_BytesText.f k l1).bind fun t235 => (if 1 + t235.size ≤ 9223372036854775807 then (some ((⟨#[120]⟩ : ByteArray) ++ t235)) else (none))) else (some (⟨#[45]⟩ : ByteArray))
set_option maxHeartbeats 8000000 in
set_option maxRecDepth 100000 in
theorem spec_l41Part.calls (k : Nat) (a0 : Bool) (A1 : Option Addr) (c1 : Nat) (l1 : List Int) (r : ByteArray) (w : World) (hr1 : Kd.C (Kd.int .i64) w A1 l1.length l1) (hc1 : l1.length ≤ c1) (h : spec_l41Part.f k a0 l1 = some r) :
  Calls Tryd.prog 73 #[.bool a0, .slice A1 l1.length c1] w fun e w' => e = .returned (.string r) ∧ Drawn0 w w' := by
 have HR1 := Aside0.mk hr1
 have HC1 := Aside0.mk hc1
 clear hr1 hc1
 have H : (if a0 = true then ((spec_BytesText.f k l1).bind fun t235 => (if 1 + t235.size ≤ 9223372036854775807 then (some ((⟨#[120]⟩ : ByteArray) ++ t235)) else (none))) else (some (⟨#[45]⟩ : ByteArray))) = some r := h
 clear h
 by_cases c3 : a0 = true
 ·subst c3
  rw [if_pos rfl] at H
  replace H := tbe H
  obtain ⟨t235, A4, H⟩ := H
  by_cases c5 : 1 + t235.size ≤ 9223372036854775807
  ·rw [if_pos c5] at H
   have c5b0 := eq_true c5
   have c5b1 : decide (1 + t235.size ≤ 9223372036854775807) = true := decide_eq_true c5
   try have c5b2 : (9223372036854775807 < 1 + t235.size) = False := eq_false (Nat.not_lt.2 c5)
   obtain rfl := Option.some.inj H
   go_enter Tryd.func73, Tryd.ntmps73
   go_wp2_with (first | ((with_reducible refine gate_callee (f := 95) rfl ?_); refine goesL_ (some 8) rfl rfl Tryd.func95 (by kernel_rfl) rfl #[.slice A1 l1.length c1] rfl tq ?_; (with_reducible refine (spec_BytesText.calls k _ _ l1 t235 _ ?side1 ?side2 A4.out).mono ?_); (case side1 => exact tC HR1.out); (case side2 => exact HC1.out); rintro e w' ⟨rfl, ⟨nd, rfl⟩⟩; refine ⟨_, rfl, ?_⟩))
   go_ret
   exact ⟨by first | rfl | (simp; done) | (simp [*]; done), by repeat (first | exact Drawn0.refl _ | apply Drawn0.step)⟩
  ·rw [if_neg c5] at H
   exact absurd H (by simp)
 ·replace c3 := Bool.eq_false_iff.mpr c3
  subst c3
  rw [if_neg (show ¬ (false = true) by decide)] at H
  obtain rfl := Option.some.inj H
  go_enter Tryd.func73, Tryd.ntmps73
  go_wp2
  go_ret
  exact ⟨by first | rfl | (simp; done) | (simp [*]; done), by repeat (first | exact Drawn0.refl _ | apply Drawn0.step)⟩

end Go.Proofs.YteoicjlhkaljbaaDoor.G

namespace Go.Proofs.YteoicjlhkaljbaaDoor.G
open Go.RowKit Go.Proofs.YteoicjlhkaljbaaDoorW.PrintWords Go.Proofs.YteoicjlhkaljbaaDoorW.PrintLast Go.Proofs.YteoicjlhkaljbaaDoorW.PrintMore
attribute [local go_sem] max2_int min2_int max_two min_two max_three min_three max_four min_four   -- for this text's walks alone
set_option linter.unusedVariables false
set_option linter.unusedSimpArgs false

def spec_l41Text.f (k : Nat) (a0_0 : Int) (a0_1 : Int) (a0_2 : Bool) (l0_3 : List Int) (a0_4 : Bool) (l0_5 : List Int) : Option (ByteArray) := (spec_l6Dec.f k a0_0).bind fun t237 => (if t237.size + 1 ≤ 9223372036854775807 then ((spec_l6Dec.f k a0_1).bind fun t238 => (if (t237 ++ (⟨#[32]⟩ : ByteArray)).size + t238.size ≤ 9223372036854775807 then (if ((t237 ++ (⟨#[32]⟩ : ByteArray)) ++ t238).size + 1 ≤ 9223372036854775807 then ((spec_l41Part.f k a0_2 l0_3).bind fun t239 => (if (((t237 ++ (⟨#[32]⟩ : ByteArray)) ++ t238) ++ (⟨#[32]⟩ : ByteArray)).size + t239.size ≤ 9223372036854775807 then (if ((((t237 ++ (⟨#[32]⟩ : ByteArray)) ++ t238) ++ (⟨#[32]⟩ : ByteArray)) ++ t239).size + 1 ≤ 9223372036854775807 then ((spec_l41Part.f k a0_4 l0_5).bind fun t240 => (if (((((t237 ++ (⟨#[32]⟩ : ByteArray)) ++ t238) ++ (⟨#[32]⟩ : ByteArray)) ++ t239) ++ (⟨#[32]⟩ : ByteArray)).size + t240.size ≤ 9223372036854775807 then (some ((((((t237 ++ (⟨#[32]⟩ : ByteArray)) ++ t238) ++ (⟨#[32]⟩ : ByteArray)) ++ t239) ++ (⟨#[32]⟩ : ByteArray)) ++ t240)) else (none))) else (none)) else (none))) else (none)) else (none))) else (none))
def spec_l41Text.T1 : Bool × List (List Nat × List Nat) := (true, [([], []), ([0], [0]), ([1], [1]), ([2], [2]), ([], []), ([4], [4]), ([5, 2], [5]), ([3, 6], [3, 6]), ([7], [7]), ([], []), ([9], [9]), ([], []), ([11], [11]), ([10, 12, 6], [10, 12]), ([8, 13], [8, 13]), ([14], [14]), ([], []), ([16], [16]), ([], []), ([18], [18]), ([17, 19, 13], [17, 19]), ([15, 20], [15, 20]), ([21, 20, 0, 1, 2, 3, 4, 5, 6, 7, 8, 9, 10, 11, 12, 13, 14, 15, 16, 17, 18, 19, 20, 21], [21])])
def spec_l41Text.B1 : List Nat := [0, 1, 3, 7, 0, 16, 55, 127, 255, 0, 512, 0, 2048, 7799, 16383, 32767, 0, 65536, 0, 262144, 999031, 2097151, 4194303]
theorem spec_l41Text.tab1 : rtab .any (opsOf Tryd.f38 1) = spec_l41Text.T1 := by kernel_rfl
theorem spec_l41Text.bits1 : waitsOk spec_l41Text.T1.2 spec_l41Text.B1 = true := by kernel_rfl
set_option maxHeartbeats 8000000 in
set_option maxRecDepth 100000 in
theorem spec_l41Text.calls (k : Nat) (a0_0 : Int) (a0_1 : Int) (a0_2 : Bool) (A0_3 : Option Addr) (c0_3 : Nat) (l0_3 : List Int) (a0_4 : Bool) (A0_5 : Option Addr) (c0_5 : Nat) (l0_5 : List Int) (r : ByteArray) (w : World) (hr0_3 : Kd.C (Kd.int .i64) w A0_3 l0_3.length l0_3) (hc0_3 : l0_3.length ≤ c0_3) (hr0_5 : Kd.C (Kd.int .i64) w A0_5 l0_5.length l0_5) (hc0_5 : l0_5.length ≤ c0_5) (h : spec_l41Text.f k a0_0 a0_1 a0_2 l0_3 a0_4 l0_5 = some r) :
  Calls Tryd.prog 38 #[.agg #[.int .i64 a0_0, .int .i64 a0_1, .bool a0_2, .slice A0_3 l0_3.length c0_3, .bool a0_4, .slice A0_5 l0_5.length c0_5]] w fun e w' => e = .returned (.string r) ∧ Below w.heap.size w w' := by
 have hu25 := Tryd.underlying25
 have HR0_3 := Aside0.mk hr0_3
 have HC0_3 := Aside0.mk hc0_3
 clear hr0_3 hc0_3
 have HR0_5 := Aside0.mk hr0_5
 have HC0_5 := Aside0.mk hc0_5
 clear hr0_5 hc0_5
 have HB := Aside0.mk (Below.refl w.heap.size w)
 have H : ((spec_l6Dec.f k a0_0).bind fun t237 => (if t237.size + 1 ≤ 9223372036854775807 then ((spec_l6Dec.f k a0_1).bind fun t238 => (if (t237 ++ (⟨#[32]⟩ : ByteArray)).size + t238.size ≤ 9223372036854775807 then (if ((t237 ++ (⟨#[32]⟩ : ByteArray)) ++ t238).size + 1 ≤ 9223372036854775807 then ((spec_l41Part.f k a0_2 l0_3).bind fun t239 => (if (((t237 ++ (⟨#[32]⟩ : ByteArray)) ++ t238) ++ (⟨#[32]⟩ : ByteArray)).size + t239.size ≤ 9223372036854775807 then (if ((((t237 ++ (⟨#[32]⟩ : ByteArray)) ++ t238) ++ (⟨#[32]⟩ : ByteArray)) ++ t239).size + 1 ≤ 9223372036854775807 then ((spec_l41Part.f k a0_4 l0_5).bind fun t240 => (if (((((t237 ++ (⟨#[32]⟩ : ByteArray)) ++ t238) ++ (⟨#[32]⟩ : ByteArray)) ++ t239) ++ (⟨#[32]⟩ : ByteArray)).size + t240.size ≤ 9223372036854775807 then (some ((((((t237 ++ (⟨#[32]⟩ : ByteArray)) ++ t238) ++ (⟨#[32]⟩ : ByteArray)) ++ t239) ++ (⟨#[32]⟩ : ByteArray)) ++ t240)) else (none))) else (none)) else (none))) else (none)) else (none))) else (none))) = some r := h
 clear h
 replace H := tbe H
 obtain ⟨t237, A2, H⟩ := H
 by_cases c3 : t237.size + 1 ≤ 9223372036854775807
 ·rw [if_pos c3] at H
  have c3b0 := eq_true c3
  have c3b1 : decide (t237.size + 1 ≤ 9223372036854775807) = true := decide_eq_true c3
  try have c3b2 : (9223372036854775807 < t237.size + 1) = False := eq_false (Nat.not_lt.2 c3)
  replace H := tbe H
  obtain ⟨t238, A4, H⟩ := H
  by_cases c5 : (t237 ++ (⟨#[32]⟩ : ByteArray)).size + t238.size ≤ 9223372036854775807
  ·rw [if_pos c5] at H
   have c5b0 := eq_true c5
   have c5b1 : decide ((t237 ++ (⟨#[32]⟩ : ByteArray)).size + t238.size ≤ 9223372036854775807) = true := decide_eq_true c5
   try have c5b2 : (9223372036854775807 < (t237 ++ (⟨#[32]⟩ : ByteArray)).size + t238.size) = False := eq_false (Nat.not_lt.2 c5)
   (try (have c5y : (9223372036854775807 < t237.size + 1 + t238.size) = False := eq_false (by have h_ := c5; simp only [ByteArray.size_append, show (⟨#[32]⟩ : ByteArray).size = 1 from rfl] at h_; omega)))
   by_cases c6 : ((t237 ++ (⟨#[32]⟩ : ByteArray)) ++ t238).size + 1 ≤ 9223372036854775807
   ·rw [if_pos c6] at H
    have c6b0 := eq_true c6
    have c6b1 : decide (((t237 ++ (⟨#[32]⟩ : ByteArray)) ++ t238).size + 1 ≤ 9223372036854775807) = true := decide_eq_true c6
    try have c6b2 : (9223372036854775807 < ((t237 ++ (⟨#[32]⟩ : ByteArray)) ++ t238).size + 1) = False := eq_false (Nat.not_lt.2 c6)
    (try (have c6y : (9223372036854775807 < t237.size + 1 + t238.size + 1) = False := eq_false (by have h_ := c6; simp only [ByteArray.size_append, show (⟨#[32]⟩ : ByteArray).size = 1 from rfl] at h_; omega)))
    replace H := tbe H
    obtain ⟨t239, A7, H⟩ := H
    by_cases c8 : (((t237 ++ (⟨#[32]⟩ : ByteArray)) ++ t238) ++ (⟨#[32]⟩ : ByteArray)).size + t239.size ≤ 9223372036854775807
    ·rw [if_pos c8] at H
     have c8b0 := eq_true c8
     have c8b1 : decide ((((t237 ++ (⟨#[32]⟩ : ByteArray)) ++ t238) ++ (⟨#[32]⟩ : ByteArray)).size + t239.size ≤ 9223372036854775807) = true := decide_eq_true c8
     try have c8b2 : (9223372036854775807 < (((t237 ++ (⟨#[32]⟩ : ByteArray)) ++ t238) ++ (⟨#[32]⟩ : ByteArray)).size + t239.size) = False := eq_false (Nat.not_lt.2 c8)
     (try (have c8y : (9223372036854775807 < t237.size + 1 + t238.size + 1 + t239.size) = False := eq_false (by have h_ := c8; simp only [ByteArray.size_append, show (⟨#[32]⟩ : ByteArray).size = 1 from rfl] at h_; omega)))
     by_cases c9 : ((((t237 ++ (⟨#[32]⟩ : ByteArray)) ++ t238) ++ (⟨#[32]⟩ : ByteArray)) ++ t239).size + 1 ≤ 9223372036854775807
     ·rw [if_pos c9] at H
      have c9b0 := eq_true c9
      have c9b1 : decide (((((t237 ++ (⟨#[32]⟩ : ByteArray)) ++ t238) ++ (⟨#[32]⟩ : ByteArray)) ++ t239).size + 1 ≤ 9223372036854775807) = true := decide_eq_true c9
      try have c9b2 : (9223372036854775807 < ((((t237 ++ (⟨#[32]⟩ : ByteArray)) ++ t238) ++ (⟨#[32]⟩ : ByteArray)) ++ t239).size + 1) = False := eq_false (Nat.not_lt.2 c9)
      (try (have c9y : (9223372036854775807 < t237.size + 1 + t238.size + 1 + t239.size + 1) = False := eq_false (by have h_ := c9; simp only [ByteArray.size_append, show (⟨#[32]⟩ : ByteArray).size = 1 from rfl] at h_; omega)))
      replace H := tbe H
      obtain ⟨t240, A10, H⟩ := H
      by_cases c11 : (((((t237 ++ (⟨#[32]⟩ : ByteArray)) ++ t238) ++ (⟨#[32]⟩ : ByteArray)) ++ t239) ++ (⟨#[32]⟩ : ByteArray)).size + t240.size ≤ 9223372036854775807
      ·rw [if_pos c11] at H
       have c11b0 := eq_true c11
       have c11b1 : decide ((((((t237 ++ (⟨#[32]⟩ : ByteArray)) ++ t238) ++ (⟨#[32]⟩ : ByteArray)) ++ t239) ++ (⟨#[32]⟩ : ByteArray)).size + t240.size ≤ 9223372036854775807) = true := decide_eq_true c11
       try have c11b2 : (9223372036854775807 < (((((t237 ++ (⟨#[32]⟩ : ByteArray)) ++ t238) ++ (⟨#[32]⟩ : ByteArray)) ++ t239) ++ (⟨#[32]⟩ : ByteArray)).size + t240.size) = False := eq_false (Nat.not_lt.2 c11)
       (try (have c11y : (9223372036854775807 < t237.size + 1 + t238.size + 1 + t239.size + 1 + t240.size) = False := eq_false (by have h_ := c11; simp only [ByteArray.size_append, show (⟨#[32]⟩ : ByteArray).size = 1 from rfl] at h_; omega)))
       obtain rfl := Option.some.inj H
       go_enter Tryd.func38, Tryd.ntmps38
       try go_wp2_with (first | ((with_reducible refine gate_dst (N := 1) rfl ?_); refine box_event ?hg (N := 1) ?hd (cs := #[.int .i64 a0_0, .int .i64 a0_1, .bool a0_2, .slice A0_3 l0_3.length c0_3, .bool a0_4, .slice A0_5 l0_5.length c0_5]) (t := 25) ?hr ?_; (case hd => rfl); (case hg => rfl); (case hr => first | (go_simp; done) | (go_simp; rfl)); intro gb236 hg w12 hbox hb; have BK236 := Aside0.mk (hbox); have GW236 := tge HB hg; have GE236 := tge HB hg; replace HB := tBs HB hb; clear hb hbox hg))
       replace BK236 := Aside0.mk (blk_drew BK236.out)
       replace HB := Aside0.mk (below_drew1 HB.out)
       refine start_ (n := 23) (S := fun w' => w'.cell? ⟨gb236, 0, none⟩ = some (.int .i64 a0_0) ∧ w'.cell? ⟨gb236, 1, none⟩ = some (.int .i64 a0_1) ∧ w'.cell? ⟨gb236, 2, none⟩ = some (.bool a0_2) ∧ w'.cell? ⟨gb236, 3, none⟩ = some (.slice A0_3 l0_3.length c0_3) ∧ w'.cell? ⟨gb236, 4, none⟩ = some (.bool a0_4) ∧ w'.cell? ⟨gb236, 5, none⟩ = some (.slice A0_5 l0_5.length c0_5)) (ds := []) #[false, false, false, false, false, false, false, false, false, false, false, false, false, false, false, false, false, false, false, false, false, false, false] (by kernel_rfl) rfl rfl ⟨(blk_cell BK236.out 0).trans rfl, (blk_cell BK236.out 1).trans rfl, (blk_cell BK236.out 2).trans rfl, (blk_cell BK236.out 3).trans rfl, (blk_cell BK236.out 4).trans rfl, (blk_cell BK236.out 5).trans rfl⟩ (fun hHeld => ?_); refine with_tabW spec_l41Text.tab1 spec_l41Text.bits1 (fun HT_ HW_ => ?_)
       generalize w12.drew = w13 at BK236 HB hHeld ⊢
       refine tpu 0 (some 3) #[true, false, false, false, false, false, false, false, false, false, false, false, false, false, false, false, false, false, false, false, false, false, false] ?_
       refine tpu 4 (some 7) #[true, false, false, false, true, false, false, false, false, false, false, false, false, false, false, false, false, false, false, false, false, false, false] ?_
       refine tpu 9 (some 12) #[true, false, false, false, true, false, false, false, false, true, false, false, false, false, false, false, false, false, false, false, false, false, false] ?_
       refine tpu 11 (some 14) #[true, false, false, false, true, false, false, false, false, true, false, true, false, false, false, false, false, false, false, false, false, false, false] ?_
       refine tpu 16 (some 19) #[true, false, false, false, true, false, false, false, false, true, false, true, false, false, false, false, true, false, false, false, false, false, false] ?_
       refine tpu 18 (some 21) #[true, false, false, false, true, false, false, false, false, true, false, true, false, false, false, false, true, false, true, false, false, false, false] ?_
       refine tta 1 (some 4) #[true, true, false, false, true, false, false, false, false, true, false, true, false, false, false, false, true, false, true, false, false, false, false] hHeld ?_ (hy := by rintro w' ⟨s0, s1, s2, s3, s4, s5⟩; go_simp; with_reducible rfl)
       refine tta 5 (some 8) #[true, true, false, false, true, true, false, false, false, true, false, true, false, false, false, false, true, false, true, false, false, false, false] hHeld ?_ (hy := by rintro w' ⟨s0, s1, s2, s3, s4, s5⟩; go_simp; with_reducible rfl)
       refine tta 10 (some 13) #[true, true, false, false, true, true, false, false, false, true, true, true, false, false, false, false, true, false, true, false, false, false, false] hHeld ?_ (hy := by rintro w' ⟨s0, s1, s2, s3, s4, s5⟩; go_simp; with_reducible rfl)
       refine tta 12 (some 15) #[true, true, false, false, true, true, false, false, false, true, true, true, true, false, false, false, true, false, true, false, false, false, false] hHeld ?_ (hy := by rintro w' ⟨s0, s1, s2, s3, s4, s5⟩; go_simp; with_reducible rfl)
       refine tta 17 (some 20) #[true, true, false, false, true, true, false, false, false, true, true, true, true, false, false, false, true, true, true, false, false, false, false] hHeld ?_ (hy := by rintro w' ⟨s0, s1, s2, s3, s4, s5⟩; go_simp; with_reducible rfl)
       refine tta 19 (some 22) #[true, true, false, false, true, true, false, false, false, true, true, true, true, false, false, false, true, true, true, true, false, false, false] hHeld ?_ (hy := by rintro w' ⟨s0, s1, s2, s3, s4, s5⟩; go_simp; with_reducible rfl)
       refine one_ (i := 2) (N := some 5) #[true, true, true, false, true, true, false, false, false, true, true, true, true, false, false, false, true, true, true, true, false, false, false] rfl rfl (one_of HT_.out (by kernel_rfl)) (by decide) (fun K hK => ?_)
       refine goes_ Tryd.func72 (by kernel_rfl) rfl #[.int .i64 a0_0] (by rfl) rfl rfl tq ?_
       with_reducible refine (spec_l6Dec.calls k a0_0 t237 _ A2.out).mono ?_
       rintro e w14 ⟨rfl, hb⟩
       refine ⟨_, rfl, ?_⟩
       replace BK236 := tBb BK236 hb
       replace HB := tBs HB hb
       (try clear hb)
       (try clear hb2)
       (try clear hk)
       (try clear hi)
       refine hK.out _ _ ⟨(blk_cell BK236.out 0).trans rfl, (blk_cell BK236.out 1).trans rfl, (blk_cell BK236.out 2).trans rfl, (blk_cell BK236.out 3).trans rfl, (blk_cell BK236.out 4).trans rfl, (blk_cell BK236.out 5).trans rfl⟩ (fun hHeld => ?_)
       clear hK K
       refine tnm (some 5) ?_
       refine tpu 3 (some 6) #[true, true, true, true, true, true, false, false, false, true, true, true, true, false, false, false, true, true, true, true, false, false, false] ?_
       refine one_ (i := 6) (N := some 9) #[true, true, true, true, true, true, true, false, false, true, true, true, true, false, false, false, true, true, true, true, false, false, false] rfl rfl (one_of HT_.out (by kernel_rfl)) (by decide) (fun K hK => ?_)
       refine goes_ Tryd.func72 (by kernel_rfl) rfl #[.int .i64 a0_1] (by rfl) rfl rfl tq ?_
       with_reducible refine (spec_l6Dec.calls k a0_1 t238 _ A4.out).mono ?_
       rintro e w15 ⟨rfl, hb⟩
       refine ⟨_, rfl, ?_⟩
       replace BK236 := tBb BK236 hb
       replace HB := tBs HB hb
       (try clear hb)
       (try clear hb2)
       (try clear hk)
       (try clear hi)
       refine hK.out _ _ ⟨(blk_cell BK236.out 0).trans rfl, (blk_cell BK236.out 1).trans rfl, (blk_cell BK236.out 2).trans rfl, (blk_cell BK236.out 3).trans rfl, (blk_cell BK236.out 4).trans rfl, (blk_cell BK236.out 5).trans rfl⟩ (fun hHeld => ?_)
       clear hK K
       refine tnm (some 9) ?_
       refine tpu 7 (some 10) #[true, true, true, true, true, true, true, true, false, true, true, true, true, false, false, false, true, true, true, true, false, false, false] ?_
       refine tpu 8 (some 11) #[true, true, true, true, true, true, true, true, true, true, true, true, true, false, false, false, true, true, true, true, false, false, false] ?_
       refine one_ (i := 13) (N := some 16) #[true, true, true, true, true, true, true, true, true, true, true, true, true, true, false, false, true, true, true, true, false, false, false] rfl rfl (one_of HT_.out (by kernel_rfl)) (by decide) (fun K hK => ?_)
       refine goes_ Tryd.func73 (by kernel_rfl) rfl #[.bool a0_2, .slice A0_3 l0_3.length c0_3] (by rfl) rfl rfl tq ?_
       with_reducible refine (spec_l41Part.calls k a0_2 _ _ l0_3 t239 _ ?side1 ?side2 A7.out).mono ?_
       (case side1 => exact tC (Kd.C_below HR0_3.out HB.out))
       (case side2 => exact HC0_3.out)
       rintro e w' ⟨rfl, ⟨nd, rfl⟩⟩
       refine ⟨_, rfl, ?_⟩
       refine hK.out _ _ ⟨(blk_cell BK236.out 0).trans rfl, (blk_cell BK236.out 1).trans rfl, (blk_cell BK236.out 2).trans rfl, (blk_cell BK236.out 3).trans rfl, (blk_cell BK236.out 4).trans rfl, (blk_cell BK236.out 5).trans rfl⟩ (fun hHeld => ?_)
       clear hK K
       refine tnm (some 16) ?_
       refine tpu 14 (some 17) #[true, true, true, true, true, true, true, true, true, true, true, true, true, true, true, false, true, true, true, true, false, false, false] ?_
       refine tpu 15 (some 18) #[true, true, true, true, true, true, true, true, true, true, true, true, true, true, true, true, true, true, true, true, false, false, false] ?_
       refine one_ (i := 20) (N := some 23) #[true, true, true, true, true, true, true, true, true, true, true, true, true, true, true, true, true, true, true, true, true, false, false] rfl rfl (one_of HT_.out (by kernel_rfl)) (by decide) (fun K hK => ?_)
       refine goes_ Tryd.func73 (by kernel_rfl) rfl #[.bool a0_4, .slice A0_5 l0_5.length c0_5] (by rfl) rfl rfl tq ?_
       with_reducible refine (spec_l41Part.calls k a0_4 _ _ l0_5 t240 _ ?side1 ?side2 A10.out).mono ?_
       (case side1 => exact tC (Kd.C_below HR0_5.out zb))
       (case side2 => exact HC0_5.out)
       rintro e w' ⟨rfl, ⟨nd, rfl⟩⟩
       refine ⟨_, rfl, ?_⟩
       refine hK.out _ _ ⟨(blk_cell BK236.out 0).trans rfl, (blk_cell BK236.out 1).trans rfl, (blk_cell BK236.out 2).trans rfl, (blk_cell BK236.out 3).trans rfl, (blk_cell BK236.out 4).trans rfl, (blk_cell BK236.out 5).trans rfl⟩ (fun hHeld => ?_)
       clear hK K
       refine tnm (some 23) ?_
       refine tpu 21 (some 24) #[true, true, true, true, true, true, true, true, true, true, true, true, true, true, true, true, true, true, true, true, true, true, false] ?_
       refine tpu 22 (some 2) #[true, true, true, true, true, true, true, true, true, true, true, true, true, true, true, true, true, true, true, true, true, true, true] ?_
       refine done_ (done_of HT_.out (by kernel_rfl)) ?_
       try go_wp2
       go_ret
       exact ⟨by first | rfl | (simp [errW_none, errW_some] <;> rfl) | (simp [*, errW_none, errW_some] <;> rfl), zb⟩
      ·rw [if_neg c11] at H
       exact absurd H (by simp)
     ·rw [if_neg c9] at H
      exact absurd H (by simp)
    ·rw [if_neg c8] at H
     exact absurd H (by simp)
   ·rw [if_neg c6] at H
    exact absurd H (by simp)
  ·rw [if_neg c5] at H
   exact absurd H (by simp)
 ·rw [if_neg c3] at H
  exact absurd H (by simp)

end Go.Proofs.YteoicjlhkaljbaaDoor.G

namespace Go.Proofs.YteoicjlhkaljbaaDoor.G
open Go.RowKit Go.Proofs.YteoicjlhkaljbaaDoorW.PrintWords Go.Proofs.YteoicjlhkaljbaaDoorW.PrintLast Go.Proofs.YteoicjlhkaljbaaDoorW.PrintMore
attribute [local go_sem] max2_int min2_int max_two min_two max_three min_three max_four min_four   -- for this text's walks alone
set_option linter.unusedVariables false
set_option linter.unusedSimpArgs false

mutual
def spec_LogText.l0 : Nat → List (S84) → ByteArray → Int → Option (ByteArray)
 | 0, _, _, _ => none
 | k + 1, x0, x3, x4 => if x4 < (x0.length : Int) then ((spec_LogValid.f k x0).bind fun t722 => (spec_LogText.j1 k x0 x3 x4 t722)) else (spec_LogText.j1 k x0 x3 x4 false)
def spec_LogText.j1 : Nat → List (S84) → ByteArray → Int → Bool → Option (ByteArray)
 | 0, _, _, _, _ => none
 | k + 1, x0, x3, x4, x13 => if x13 = true then (spec_LogText.l1 k x0 x3 x4 0) else (some x3)
def spec_LogText.l1 : Nat → List (S84) → ByteArray → Int → Int → Option (ByteArray)
 | 0, _, _, _, _ => none
 | k + 1, x0, x3, x4, x5 => if 0 ≤ x4 then (if x4 < (x0.length : Int) then (if x5 < (((rd_T84 x0 x4).f5).length : Int) then (if 0 ≤ x5 then ((spec_l41Text.f k ((rd_T25 ((rd_T84 x0 x4).f5) x5).f0) ((rd_T25 ((rd_T84 x0 x4).f5) x5).f1) ((rd_T25 ((rd_T84 x0 x4).f5) x5).f2) ((rd_T25 ((rd_T84 x0 x4).f5) x5).f3) ((rd_T25 ((rd_T84 x0 x4).f5) x5).f4) ((rd_T25 ((rd_T84 x0 x4).f5) x5).f5)).bind fun t726 => (if x3.size + t726.size ≤ 9223372036854775807 then (if (x3 ++ t726).size + 1 ≤ 9223372036854775807 then (spec_LogText.l1 k x0 ((x3 ++ t726) ++ (⟨#[10]⟩ : ByteArray)) x4 (wrap64 (x5 + 1))) else (none)) else (none))) else (none)) else (spec_LogText.l0 k x0 x3 (wrap64 (x4 + 1)))) else (none)) else (none)
end
def spec_LogText.f (k : Nat) (l0 : List (S84)) : Option (ByteArray) := spec_LogText.l0 k l0 (⟨#[]⟩ : ByteArray) 0
set_option maxHeartbeats 8000000 in
set_option maxRecDepth 100000 in
theorem spec_LogText.calls (k : Nat) (A0 : Option Addr) (c0 : Nat) (l0 : List (S84)) (r : ByteArray) (w : World) (hr0 : Kd.C k84 w A0 l0.length l0) (hc0 : l0.length ≤ c0) (h : spec_LogText.f k l0 = some r) :
  Calls Tryd.prog 27 #[.slice A0 l0.length c0] w fun e w' => e = .returned (.string r) ∧ Below w.heap.size w w' := by
 have hu25 := Tryd.underlying25
 have HR0 := Aside0.mk hr0
 have HC0 := Aside0.mk hc0
 clear hr0 hc0
 have HB := Aside0.mk (Below.refl w.heap.size w)
 have H : (spec_LogText.l0 k l0 (⟨#[]⟩ : ByteArray) 0) = some r := h
 clear h
 have H' := Aside0.mk H
 clear H
 go_enter Tryd.func27, Tryd.ntmps27
 go_wp2
 go_loopg [3, 4] k (fun kq v3 v4 w' => ∃ (x3_1 : ByteArray) (x4_1 : Int), v3 = .string x3_1 ∧ v4 = .int .i64 x4_1 ∧ Aside0 (spec_LogText.l0 kq l0 x3_1 x4_1 = some r) ∧ Aside0 (kq ≤ k) ∧ Aside0 (Below w.heap.size w w'))
 case atStart => exact ⟨((⟨#[]⟩ : ByteArray)), (0), tr, tr, H', ⟨Nat.le_refl _⟩, ⟨zb⟩⟩
 case round =>
  clear H'
  obtain ⟨x3_1, x4_1, rfl, rfl, HA, HK1, HB⟩ := hrel
  cases gk with
  | zero => exact absurd HA.out (by simp [spec_LogText.l0])
  | succ k1 =>
   have H := HA.out
   clear HA
   simp only [spec_LogText.l0] at H
   have HC2 := Aside0.mk H
   clear H
   go_upto_region 3 with (fail)
   go_cut [13] (fun v13 wc => ∃ (kq : Nat) (x13_1 : Bool), v13 = .bool x13_1 ∧ Aside0 (spec_LogText.j1 kq l0 x3_1 x4_1 x13_1 = some r) ∧ Aside0 (kq ≤ k1) ∧ Aside0 (Below w.heap.size w wc))
   case first =>
    have H := HC2.out
    clear HC2
    by_cases c3 : x4_1 < (l0.length : Int)
    ·rw [if_pos c3] at H
     have c3b0 : decide (x4_1 < (l0.length : Int)) = true := decide_eq_true c3
     clear c3
     (first | rw [c3b0] | (simp only [i64_w, i32_w]; rw [c3b0]) | skip)
     replace H := tbe H
     obtain ⟨t722, A4, H⟩ := H
     have H' := Aside0.mk H
     clear H
     go_wp2_with (first | (go_at_call 28; (with_reducible refine (spec_LogValid.calls k1 _ _ l0 t722 _ ?side1 ?side2 A4.out).mono ?_); (case side1 => exact tC (Kd.C_below HR0.out HB.out)); (case side2 => exact HC0.out); rintro e w5 ⟨rfl, hb⟩; replace HB := tBs HB hb; (try clear hb); (try clear hb2); (try clear hk); (try clear hi)))
     go_meet
     case rel => exact ⟨_, (t722), tr, H', ⟨by have := HK1.out; first | omega | exact Nat.le_refl _⟩, ⟨zb⟩⟩
    ·rw [if_neg c3] at H
     have c3b0 : decide (x4_1 < (l0.length : Int)) = false := decide_eq_false c3
     clear c3
     (first | rw [c3b0] | (simp only [i64_w, i32_w]; rw [c3b0]) | skip)
     have H' := Aside0.mk H
     clear H
     go_wp2
     go_meet
     case rel => exact ⟨_, (false), tr, H', ⟨by have := HK1.out; first | omega | exact Nat.le_refl _⟩, ⟨zb⟩⟩
   case rest =>
    clear HC2
    obtain ⟨kq, x13_1, rfl, HA, HJ1, HB⟩ := hcut
    cases kq with
    | zero => exact absurd HA.out (by simp [spec_LogText.j1])
    | succ kj1 =>
     have H := HA.out
     clear HA
     simp only [spec_LogText.j1] at H
     by_cases c6 : x13_1 = true
     ·subst c6
      rw [if_pos rfl] at H
      have H' := Aside0.mk H
      clear H
      go_wp2
      go_loopg [3, 5] kj1 (fun kq v3 v5 w' => ∃ (x3_3 : ByteArray) (x5_3 : Int), v3 = .string x3_3 ∧ v5 = .int .i64 x5_3 ∧ Aside0 (spec_LogText.l1 kq l0 x3_3 x4_1 x5_3 = some r) ∧ Aside0 (kq ≤ kj1) ∧ Aside0 (Below w.heap.size w w'))
      case atStart => exact ⟨(x3_1), (0), tr, tr, H', ⟨Nat.le_refl _⟩, ⟨zb⟩⟩
      case round =>
       clear H'
       try clear c6
       obtain ⟨x3_3, x5_3, rfl, rfl, HA, HK3, HB⟩ := hrel
       cases gk with
       | zero => exact absurd HA.out (by simp [spec_LogText.l1])
       | succ k3 =>
        have H := HA.out
        clear HA
        simp only [spec_LogText.l1] at H
        by_cases c7 : 0 ≤ x4_1
        ·rw [if_pos c7] at H
         have c7b0 : decide (0 ≤ x4_1) = true := decide_eq_true c7
         clear c7
         by_cases c8 : x4_1 < (l0.length : Int)
         ·rw [if_pos c8] at H
          have c8b0 : decide (x4_1 < (l0.length : Int)) = true := decide_eq_true c8
          clear c8
          by_cases c9 : x5_3 < (((rd_T84 l0 x4_1).f5).length : Int)
          ·rw [if_pos c9] at H
           have c9b0 : decide (x5_3 < (((rd_T84 l0 x4_1).f5).length : Int)) = true := decide_eq_true c9
           clear c9
           by_cases c10 : 0 ≤ x5_3
           ·rw [if_pos c10] at H
            have c10b0 : decide (0 ≤ x5_3) = true := decide_eq_true c10
            clear c10
            replace H := tbe H
            obtain ⟨t726, A11, H⟩ := H
            by_cases c12 : x3_3.size + t726.size ≤ 9223372036854775807
            ·rw [if_pos c12] at H
             have c12b0 := eq_true c12
             have c12b1 : decide (x3_3.size + t726.size ≤ 9223372036854775807) = true := decide_eq_true c12
             try have c12b2 : (9223372036854775807 < x3_3.size + t726.size) = False := eq_false (Nat.not_lt.2 c12)
             by_cases c13 : (x3_3 ++ t726).size + 1 ≤ 9223372036854775807
             ·rw [if_pos c13] at H
              have c13b0 := eq_true c13
              have c13b1 : decide ((x3_3 ++ t726).size + 1 ≤ 9223372036854775807) = true := decide_eq_true c13
              try have c13b2 : (9223372036854775807 < (x3_3 ++ t726).size + 1) = False := eq_false (Nat.not_lt.2 c13)
              (try (have c13y : (9223372036854775807 < x3_3.size + t726.size + 1) = False := eq_false (by have h_ := c13; simp only [ByteArray.size_append] at h_; omega)))
              have H' := Aside0.mk H
              clear H
              have p723 : 0 ≤ (x4_1 : Int) := td
              have q723 : x4_1 < (l0.length : Int) := td
              obtain ⟨ad723, A723_5, c723_5, e723, hx723_0, hx723_1, hx723_2, hx723_3, hx723_4, hx723_5, hl723_5, hi723_5⟩ := at_T84 HR0.out x4_1 p723 q723
              cases e723
              replace hx723_0 := tcl HB hx723_0
              replace hx723_1 := tcl HB hx723_1
              replace hx723_2 := tcl HB hx723_2
              replace hx723_3 := tcl HB hx723_3
              replace hx723_4 := tcl HB hx723_4
              replace hx723_5 := tcl HB hx723_5
              have HR723_5 := Aside0.mk hi723_5
              have HC723_5 := Aside0.mk hl723_5
              clear hi723_5 hl723_5
              replace p723 := eq_true p723
              replace q723 := eq_true q723
              have p724 : 0 ≤ (x4_1 : Int) := td
              have q724 : x4_1 < (l0.length : Int) := td
              obtain ⟨ad724, A724_5, c724_5, e724, hx724_0, hx724_1, hx724_2, hx724_3, hx724_4, hx724_5, hl724_5, hi724_5⟩ := at_T84 HR0.out x4_1 p724 q724
              obtain rfl : ad723 = ad724 := (by injection e724)
              replace hx724_0 := tcl HB hx724_0
              replace hx724_1 := tcl HB hx724_1
              replace hx724_2 := tcl HB hx724_2
              replace hx724_3 := tcl HB hx724_3
              replace hx724_4 := tcl HB hx724_4
              replace hx724_5 := tcl HB hx724_5
              have HR724_5 := Aside0.mk hi724_5
              have HC724_5 := Aside0.mk hl724_5
              clear hi724_5 hl724_5
              replace p724 := eq_true p724
              replace q724 := eq_true q724
              have ea_ := Option.some.inj (hx723_5.symm.trans hx724_5)
              injection ea_ with ea_ en_ ec_
              subst ea_
              subst ec_
              clear en_
              have p725 : 0 ≤ (x5_3 : Int) := td
              have q725 : x5_3 < (((rd_T84 l0 x4_1).f5).length : Int) := td
              obtain ⟨ad725, A725_3, c725_3, A725_5, c725_5, e725, hx725_0, hx725_1, hx725_2, hx725_3, hx725_4, hx725_5, hl725_3, hi725_3, hl725_5, hi725_5⟩ := at_T25 HR724_5.out x5_3 p725 q725
              cases e725
              replace hx725_0 := tcl HB hx725_0
              replace hx725_1 := tcl HB hx725_1
              replace hx725_2 := tcl HB hx725_2
              replace hx725_3 := tcl HB hx725_3
              replace hx725_4 := tcl HB hx725_4
              replace hx725_5 := tcl HB hx725_5
              have HR725_3 := Aside0.mk hi725_3
              have HC725_3 := Aside0.mk hl725_3
              clear hi725_3 hl725_3
              have HR725_5 := Aside0.mk hi725_5
              have HC725_5 := Aside0.mk hl725_5
              clear hi725_5 hl725_5
              replace p725 := eq_true p725
              replace q725 := eq_true q725
              go_wp2_with (first | ((with_reducible refine gate_callee (f := 38) rfl ?_); refine goesL_ (some 35) rfl rfl Tryd.func38 (by kernel_rfl) rfl #[.agg #[.int .i64 ((rd_T25 ((rd_T84 l0 x4_1).f5) x5_3).f0), .int .i64 ((rd_T25 ((rd_T84 l0 x4_1).f5) x5_3).f1), .bool ((rd_T25 ((rd_T84 l0 x4_1).f5) x5_3).f2), .slice A725_3 ((rd_T25 ((rd_T84 l0 x4_1).f5) x5_3).f3).length c725_3, .bool ((rd_T25 ((rd_T84 l0 x4_1).f5) x5_3).f4), .slice A725_5 ((rd_T25 ((rd_T84 l0 x4_1).f5) x5_3).f5).length c725_5]] rfl tq ?_; (with_reducible refine (spec_l41Text.calls k3 ((rd_T25 ((rd_T84 l0 x4_1).f5) x5_3).f0) ((rd_T25 ((rd_T84 l0 x4_1).f5) x5_3).f1) ((rd_T25 ((rd_T84 l0 x4_1).f5) x5_3).f2) _ _ ((rd_T25 ((rd_T84 l0 x4_1).f5) x5_3).f3) ((rd_T25 ((rd_T84 l0 x4_1).f5) x5_3).f4) _ _ ((rd_T25 ((rd_T84 l0 x4_1).f5) x5_3).f5) t726 _ ?side1 ?side2 ?side3 ?side4 A11.out).mono ?_); (case side1 => exact tC (Kd.C_below HR725_3.out HB.out)); (case side2 => exact HC725_3.out); (case side3 => exact tC (Kd.C_below HR725_5.out HB.out)); (case side4 => exact HC725_5.out); rintro e w14 ⟨rfl, hb⟩; refine ⟨_, rfl, ?_⟩; replace HB := tBs HB hb; (try clear hb); (try clear hb2); (try clear hk); (try clear hi)))
              go_roundg k3
              case measure => have := HK1.out; have := HJ1.out; have := HK3.out; omega
              case rel => exact ⟨((x3_3 ++ t726) ++ (⟨#[10]⟩ : ByteArray)), (wrap64 (x5_3 + 1)), tr, tr, H', ⟨by have := HK1.out; have := HJ1.out; have := HK3.out; omega⟩, ⟨zb⟩⟩
             ·rw [if_neg c13] at H
              exact absurd H (by simp)
            ·rw [if_neg c12] at H
             exact absurd H (by simp)
           ·rw [if_neg c10] at H
            exact absurd H (by simp)
          ·rw [if_neg c9] at H
           have c9b0 : decide (x5_3 < (((rd_T84 l0 x4_1).f5).length : Int)) = false := decide_eq_false c9
           clear c9
           have H' := Aside0.mk H
           clear H
           have p723 : 0 ≤ (x4_1 : Int) := td
           have q723 : x4_1 < (l0.length : Int) := td
           obtain ⟨ad723, A723_5, c723_5, e723, hx723_0, hx723_1, hx723_2, hx723_3, hx723_4, hx723_5, hl723_5, hi723_5⟩ := at_T84 HR0.out x4_1 p723 q723
           cases e723
           replace hx723_0 := tcl HB hx723_0
           replace hx723_1 := tcl HB hx723_1
           replace hx723_2 := tcl HB hx723_2
           replace hx723_3 := tcl HB hx723_3
           replace hx723_4 := tcl HB hx723_4
           replace hx723_5 := tcl HB hx723_5
           have HR723_5 := Aside0.mk hi723_5
           have HC723_5 := Aside0.mk hl723_5
           clear hi723_5 hl723_5
           replace p723 := eq_true p723
           replace q723 := eq_true q723
           go_wp2
           go_roundg k3
           case measure => have := HK1.out; have := HJ1.out; have := HK3.out; omega
           case rel => exact ⟨(x3_3), (wrap64 (x4_1 + 1)), tr, tr, H', ⟨by have := HK1.out; have := HJ1.out; have := HK3.out; omega⟩, ⟨zb⟩⟩
         ·rw [if_neg c8] at H
          exact absurd H (by simp)
        ·rw [if_neg c7] at H
         exact absurd H (by simp)
     ·replace c6 := Bool.eq_false_iff.mpr c6
      subst c6
      rw [if_neg (show ¬ (false = true) by decide)] at H
      obtain rfl := Option.some.inj H
      go_wp2
      go_ret
      exact ⟨by first | rfl | (simp [errW_none, errW_some] <;> rfl) | (simp [*, errW_none, errW_some] <;> rfl), zb⟩

end Go.Proofs.YteoicjlhkaljbaaDoor.G

