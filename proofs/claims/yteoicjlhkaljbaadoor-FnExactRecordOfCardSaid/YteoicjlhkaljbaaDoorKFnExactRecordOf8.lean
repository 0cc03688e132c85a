/- A text of seat YteoicjlhkaljbaaDoor: what the law FnExactRecordOf needs of this repo's texts (by pack.py). Not trusted: Lean checks it. -/
import Derived.Test.YteoicjlhkaljbaaDoorKFnExactRecordOf7
import Derived.Deep.Slices
import Derived.SizedLaws
import Derived.Lib.SplitLaws
import Derived.Lib.Join
import Derived.Laws.BitsLemmas
import Derived.Shelf.Strings.BuilderK
import Derived.Test.YteoicjlhkaljbaaDoorProg
namespace Go.Proofs.YteoicjlhkaljbaaDoor.G
open Go.RowKit Go.Proofs.YteoicjlhkaljbaaDoorW.PrintWords Go.Proofs.YteoicjlhkaljbaaDoorW.PrintLast Go.Proofs.YteoicjlhkaljbaaDoorW.PrintMore
attribute [local go_sem] max2_int min2_int max_two min_two max_three min_three max_four min_four   -- for this text's walks alone
set_option linter.unusedVariables false
set_option linter.unusedSimpArgs false

mutual
def laws_FnExactRecordOf.j0 : Nat → ByteArray → Bool → Bool → Int → Int → Bool → List Int → Bool → List Int → Int → Int → Bool → List Int → Bool → List Int → Option (Bool)
 | 0, _, _, _, _, _, _, _, _, _, _, _, _, _, _, _ => none
 | k + 1, x0, x4, x32, x391000, x391001, x391002, x391003, x391004, x391005, x403000, x403001, x403002, x403003, x403004, x403005 => if x32 = true then (some false) else ((laws_markRecord.f k x403000 x403001 x403002 x403003 x403004 x403005 1).bind fun bt404 => ((laws_heldRecord.f k x403000 x403001 x403002 bt404.2.1 x403004 bt404.2.2 1).bind fun t407 => (if t407 < 0 then (some false) else (if t407 = bt404.1 then ((impl_RecordOf.f k x0).bind fun bt408 => ((laws_eqRecord.f k bt408.1 bt408.2.1 bt408.2.2.1 bt408.2.2.2.1 bt408.2.2.2.2.1 bt408.2.2.2.2.2.1 x391000 x391001 x391002 x391003 x391004 x391005).bind fun t420 => (if t420 = true then (laws_FnExactRecordOf.j1 k bt404.1 (bt408.2.2.2.2.2.2 != x4) x403000 x403001 x403002 bt404.2.1 x403004 bt404.2.2) else (laws_FnExactRecordOf.j1 k bt404.1 true x403000 x403001 x403002 bt404.2.1 x403004 bt404.2.2)))) else (some false)))))
def laws_FnExactRecordOf.j1 : Nat → Int → Bool → Int → Int → Bool → List Int → Bool → List Int → Option (Bool)
 | 0, _, _, _, _, _, _, _, _ => none
 | k + 1, x7, x57, x403000, x403001, x403002, x403003, x403004, x403005 => if x57 = true then (some false) else ((laws_heldRecord.f k x403000 x403001 x403002 x403003 x403004 x403005 1).bind fun t421 => (if t421 < 0 then (some false) else (if t421 = x7 then (some true) else (some false))))
end
def laws_FnExactRecordOf.f (k : Nat) (a0 : ByteArray) : Option (Bool) := if (a0.size : Int) > 1048576 then (some true) else ((spec_RecordOf.f k a0).bind fun bt379 => ((impl_RecordOf.f k a0).bind fun bt391 => ((laws_eqRecord.f k bt391.1 bt391.2.1 bt391.2.2.1 bt391.2.2.2.1 bt391.2.2.2.2.1 bt391.2.2.2.2.2.1 bt379.1 bt379.2.1 bt379.2.2.1 bt379.2.2.2.1 bt379.2.2.2.2.1 bt379.2.2.2.2.2.1).bind fun t403 => (if t403 = true then (laws_FnExactRecordOf.j0 k a0 bt379.2.2.2.2.2.2 (bt391.2.2.2.2.2.2 != bt379.2.2.2.2.2.2) bt379.1 bt379.2.1 bt379.2.2.1 bt379.2.2.2.1 bt379.2.2.2.2.1 bt379.2.2.2.2.2.1 bt391.1 bt391.2.1 bt391.2.2.1 bt391.2.2.2.1 bt391.2.2.2.2.1 bt391.2.2.2.2.2.1) else (laws_FnExactRecordOf.j0 k a0 bt379.2.2.2.2.2.2 true bt379.1 bt379.2.1 bt379.2.2.1 bt379.2.2.2.1 bt379.2.2.2.2.1 bt379.2.2.2.2.2.1 bt391.1 bt391.2.1 bt391.2.2.1 bt391.2.2.2.1 bt391.2.2.2.2.1 bt391.2.2.2.2.2.1)))))
set_option maxHeartbeats 40000000 in
set_option maxRecDepth 100000 in
theorem laws_FnExactRecordOf.calls [ErrA] (k : Nat) (a0 : ByteArray) (r : Bool) (w : World) (hE : ErrOk [0] w) (h : laws_FnExactRecordOf.f k a0 = some r) :
  Calls Tryd.prog 5 #[.string a0] w fun e w' => e = .returned (.bool r) ∧ Below w.heap.size w w' := by
 have HE := Aside0.mk hE
 clear hE
 have hu25 := Tryd.underlying25
 have HB := Aside0.mk (Below.refl w.heap.size w)
 have H : (if (a0.size : Int) > 1048576 then (some true) else ((spec_RecordOf.f k a0).bind fun bt379 => ((impl_RecordOf.f k a0).bind fun bt391 => ((laws_eqRecord.f k bt391.1 bt391.2.1 bt391.2.2.1 bt391.2.2.2.1 bt391.2.2.2.2.1 bt391.2.2.2.2.2.1 bt379.1 bt379.2.1 bt379.2.2.1 bt379.2.2.2.1 bt379.2.2.2.2.1 bt379.2.2.2.2.2.1).bind fun t403 => (if t403 = true then (laws_FnExactRecordOf.j0 k a0 bt379.2.2.2.2.2.2 (bt391.2.2.2.2.2.2 != bt379.2.2.2.2.2.2) bt379.1 bt379.2.1 bt379.2.2.1 bt379.2.2.2.1 bt379.2.2.2.2.1 bt379.2.2.2.2.2.1 bt391.1 bt391.2.1 bt391.2.2.1 bt391.2.2.2.1 bt391.2.2.2.2.1 bt391.2.2.2.2.2.1) else (laws_FnExactRecordOf.j0 k a0 bt379.2.2.2.2.2.2 true bt379.1 bt379.2.1 bt379.2.2.1 bt379.2.2.2.1 bt379.2.2.2.2.1 bt379.2.2.2.2.2.1 bt391.1 bt391.2.1 bt391.2.2.1 bt391.2.2.2.1 bt391.2.2.2.2.1 bt391.2.2.2.2.2.1)))))) = some r := h
 clear h
 by_cases c2 : (a0.size : Int) > 1048576
 ·rw [if_pos c2] at H
  have c2b0 : decide (1048576 < (a0.size : Int)) = true := decide_eq_true c2
  have c2b1 : decide (1048576 < a0.size) = true := decide_eq_true (by omega)
  clear c2
  obtain rfl := Option.some.inj H
  go_enter Tryd.func5, Tryd.ntmps5
  go_wp2
  all_goals go_ret
  all_goals exact ⟨by first | rfl | (simp [errW_none, errW_some] <;> rfl) | (simp [*, errW_none, errW_some] <;> rfl), zb⟩
 ·rw [if_neg c2] at H
  have c2b0 : decide (1048576 < (a0.size : Int)) = false := decide_eq_false c2
  have c2b1 : decide (1048576 < a0.size) = false := decide_eq_false (by omega)
  clear c2
  replace H := tbe H
  obtain ⟨⟨t379, t380, t381, t382, t385, t386, t389⟩, A3, H⟩ := H
  dsimp only at H
  replace H := tbe H
  obtain ⟨⟨t391, t392, t393, t394, t397, t398, t401⟩, A4, H⟩ := H
  dsimp only at H
  have HC5 := Aside0.mk H
  clear H
  go_enter Tryd.func5, Tryd.ntmps5
  go_upto_region 5 with (first | ((with_reducible refine gate_callee (f := 18) rfl ?_); refine goesL_ (some 16) rfl rfl Tryd.func18 (by kernel_rfl) rfl #[.string a0] rfl tq ?_; (with_reducible refine (spec_RecordOf.calls k a0 t379 t380 t381 t382 t385 t386 t389 _ A3.out).mono ?_); rintro e w6 ⟨v383, v387, rfl, ho0, ho1, hb⟩; have u_v383 := tsv Tryd.prog v383 ho0; have u_v387 := tsv Tryd.prog v387 ho1; refine ⟨_, rfl, ?_⟩; have HO384 := tRl ho0 HB; have HO388 := tRl ho1 HB; replace HB := tBs HB hb; (try clear hb); (try clear hb2); (try clear hk); (try clear hi); (try clear ho0); (try clear ho1)) | ((with_reducible refine gate_dst (N := 3) rfl ?_); refine box_event ?hg (N := 3) ?hd (cs := #[.int .i64 0, .int .i64 0, .bool false, .slice none 0 0, .bool false, .slice none 0 0]) (t := 25) ?hr ?_; (case hd => rfl); (case hg => rfl); (case hr => first | (go_simp; done) | (go_simp; rfl)); intro gb390 hg w7 hbox hb; replace HO384 := tRb HO384 hb; replace HO388 := tRb HO388 hb; have BK390 := Aside0.mk (hbox); have GW390 := tge HB hg; have GE390 := tge HB hg; replace HB := tBs HB hb; clear hb hbox hg; obtain ⟨hcz8_0, hcz8_1, hcz8_2, hcz8_3, hcz8_4, hcz8_5, hfz8_0, hfz8_1, hfz8_2, hfz8_3, hfz8_4, hfz8_5⟩ := cells6 BK390.out; obtain ⟨Ao9, co9, eo9⟩ := Kd.R_slice HO384.out; subst eo9; obtain ⟨Ao10, co10, eo10⟩ := Kd.R_slice HO388.out; subst eo10) | ((with_reducible refine gate_callee (f := 19) rfl ?_); refine goesL_ (some 21) rfl rfl Tryd.func19 (by kernel_rfl) rfl #[.string a0] rfl tq ?_; (with_reducible refine (impl_RecordOf.calls (hE := ?sideE) k a0 t391 t392 t393 t394 t397 t398 t401 _ A4.out).mono ?_); (case sideE => exact ErrOk.below (HE.out.sub (by decide)) zb); rintro e w11 ⟨v395, v399, rfl, ho0, ho1, hb⟩; have u_v395 := tsv Tryd.prog v395 ho0; have u_v399 := tsv Tryd.prog v399 ho1; refine ⟨_, rfl, ?_⟩; have HO396 := Aside0.mk (Kd.R_lower (Kd.R_new' (Kd.R_new' ho0 (Kd.R_lt (tRt HO384.out BK390.out))) (Kd.R_lt (tRt HO388.out BK390.out))) (below_size zb)); have HO400 := Aside0.mk (Kd.R_lower (Kd.R_new' (Kd.R_new' ho1 (Kd.R_lt (tRt HO384.out BK390.out))) (Kd.R_lt (tRt HO388.out BK390.out))) (below_size zb)); replace HO384 := Aside0.mk (Kd.R_mono (Kd.R_told (Kd.R_told (Kd.R_old (tRt HO384.out BK390.out) hb) (Kd.R_base ho0)) (Kd.R_base ho1)) (fun _ h_ => h_.1)); replace HO388 := Aside0.mk (Kd.R_mono (Kd.R_told (Kd.R_told (Kd.R_old (tRt HO388.out BK390.out) hb) (Kd.R_base ho0)) (Kd.R_base ho1)) (fun _ h_ => h_.1)); replace BK390 := tBp (o' := .cells #[.int .i64 t379, .int .i64 t380, .bool t381, .slice Ao9 t382.length co9, .bool t385, .slice Ao10 t386.length co10] 25 (0, 0)) BK390 hb; replace HB := tBs HB hb; (try clear hb); (try clear hb2); (try clear hk); (try clear hi); (try clear ho0); (try clear ho1)) | ((with_reducible refine gate_dst (N := 5) rfl ?_); refine box_event ?hg (N := 5) ?hd (cs := #[.int .i64 0, .int .i64 0, .bool false, .slice none 0 0, .bool false, .slice none 0 0]) (t := 25) ?hr ?_; (case hd => rfl); (case hg => rfl); (case hr => first | (go_simp; done) | (go_simp; rfl)); intro gb402 hg w12 hbox hb; replace HO384 := tRb HO384 hb; replace HO388 := tRb HO388 hb; replace HO396 := tRb HO396 hb; replace HO400 := tRb HO400 hb; have BK402 := Aside0.mk (hbox); have GW402 := tge HB hg; have GE402 := tge HB hg; replace HB := tBs HB hb; have NB390_402 := tlt BK390 hg; have NB402_390 := tgt BK390 hg; replace BK390 := tBb BK390 hb; clear hb hbox hg; have hnb13 := NB402_390.out; have hnc13 := NB390_402.out; obtain ⟨hcz14_0, hcz14_1, hcz14_2, hcz14_3, hcz14_4, hcz14_5, hfz14_0, hfz14_1, hfz14_2, hfz14_3, hfz14_4, hfz14_5⟩ := cells6 BK402.out; obtain ⟨Ao15, co15, eo15⟩ := Kd.R_slice HO396.out; subst eo15; obtain ⟨Ao16, co16, eo16⟩ := Kd.R_slice HO400.out; subst eo16))
  (try simp only [Act.put, List.setIfInBounds_toArray, List.set_cons_zero, List.set_cons_succ])
  go_cut [32] (fun v32 wc => ∃ (kq : Nat) (x32_4 : Bool), v32 = .bool x32_4 ∧ Aside0 (laws_FnExactRecordOf.j0 kq a0 t389 x32_4 t379 t380 t381 t382 t385 t386 t391 t392 t393 t394 t397 t398 = some r) ∧ Aside0 (kq ≤ k) ∧ Aside0 (Kd.R (Kd.int .i64) 3 wc w.heap.size (fun k_ => some k_ ≠ ((.slice Ao10 t386.length co10) : Value).ownBlock ∧ some k_ ≠ ((.slice Ao15 t394.length co15) : Value).ownBlock ∧ some k_ ≠ ((.slice Ao16 t398.length co16) : Value).ownBlock) (.slice Ao9 t382.length co9) t382) ∧ Aside0 (Kd.R (Kd.int .i64) 3 wc w.heap.size (fun k_ => some k_ ≠ ((.slice Ao9 t382.length co9) : Value).ownBlock ∧ some k_ ≠ ((.slice Ao15 t394.length co15) : Value).ownBlock ∧ some k_ ≠ ((.slice Ao16 t398.length co16) : Value).ownBlock) (.slice Ao10 t386.length co10) t386) ∧ Aside0 (Kd.R (Kd.int .i64) 3 wc w.heap.size (fun k_ => some k_ ≠ ((.slice Ao9 t382.length co9) : Value).ownBlock ∧ some k_ ≠ ((.slice Ao10 t386.length co10) : Value).ownBlock ∧ some k_ ≠ ((.slice Ao16 t398.length co16) : Value).ownBlock) (.slice Ao15 t394.length co15) t394) ∧ Aside0 (Kd.R (Kd.int .i64) 3 wc w.heap.size (fun k_ => some k_ ≠ ((.slice Ao9 t382.length co9) : Value).ownBlock ∧ some k_ ≠ ((.slice Ao10 t386.length co10) : Value).ownBlock ∧ some k_ ≠ ((.slice Ao15 t394.length co15) : Value).ownBlock) (.slice Ao16 t398.length co16) t398) ∧ Aside0 (wc.heap[gb390]? = some (.cells #[.int .i64 t379, .int .i64 t380, .bool t381, (.slice Ao9 t382.length co9), .bool t385, (.slice Ao10 t386.length co10)] 25 (0, 0))) ∧ Aside0 (wc.heap[gb402]? = some (.cells #[.int .i64 t391, .int .i64 t392, .bool t393, (.slice Ao15 t394.length co15), .bool t397, (.slice Ao16 t398.length co16)] 25 (0, 0))) ∧ Aside0 (Below w.heap.size w wc))
  case first =>
   have H := HC5.out
   clear HC5
   replace H := tbe H
   obtain ⟨t403, A17, H⟩ := H
   by_cases c18 : t403 = true
   ·subst c18
    rw [if_pos rfl] at H
    have H' := Aside0.mk H
    clear H
    have hnb19 := NB402_390.out
    have hnc19 := NB390_402.out
    obtain ⟨hcz20_0, hcz20_1, hcz20_2, hcz20_3, hcz20_4, hcz20_5, hfz20_0, hfz20_1, hfz20_2, hfz20_3, hfz20_4, hfz20_5⟩ := cells6 BK402.out
    obtain ⟨hcz21_0, hcz21_1, hcz21_2, hcz21_3, hcz21_4, hcz21_5, hfz21_0, hfz21_1, hfz21_2, hfz21_3, hfz21_4, hfz21_5⟩ := cells6 BK390.out
    go_wp2_with (first | ((with_reducible refine gate_callee (f := 17) rfl ?_); refine goesL_ (some 26) rfl rfl Tryd.func17 (by kernel_rfl) rfl #[.agg #[.int .i64 t391, .int .i64 t392, .bool t393, .slice Ao15 t394.length co15, .bool t397, .slice Ao16 t398.length co16], .agg #[.int .i64 t379, .int .i64 t380, .bool t381, .slice Ao9 t382.length co9, .bool t385, .slice Ao10 t386.length co10]] rfl tq ?_; (with_reducible refine (laws_eqRecord.calls k t391 t392 t393 _ _ t394 t397 _ _ t398 t379 t380 t381 _ _ t382 t385 _ _ t386 true _ ?side1 ?side2 ?side3 ?side4 ?side5 ?side6 ?side7 ?side8 A17.out).mono ?_); (case side1 => refine (Kd.R_reads' (e := 3) (base := w.heap.size) (ok := fun k_ => ((some k_ ≠ (.slice Ao16 t398.length co16 : Value).ownBlock ∧ some k_ ≠ (.slice Ao9 t382.length co9 : Value).ownBlock) ∧ some k_ ≠ (.slice Ao10 t386.length co10 : Value).ownBlock)) (n := t394.length) (c := co15) ?_).2.2; exact (tRt HO396.out BK402.out)); (case side2 => exact (Kd.R_reads' HO396.out).2.1); (case side3 => refine (Kd.R_reads' (e := 3) (base := w.heap.size) (ok := fun k_ => ((some k_ ≠ (.slice Ao15 t394.length co15 : Value).ownBlock ∧ some k_ ≠ (.slice Ao9 t382.length co9 : Value).ownBlock) ∧ some k_ ≠ (.slice Ao10 t386.length co10 : Value).ownBlock)) (n := t398.length) (c := co16) ?_).2.2; exact (tRt HO400.out BK402.out)); (case side4 => exact (Kd.R_reads' HO400.out).2.1); (case side5 => refine (Kd.R_reads' (e := 3) (base := w.heap.size) (ok := fun k_ => ((some k_ ≠ (.slice Ao10 t386.length co10 : Value).ownBlock ∧ some k_ ≠ (.slice Ao15 t394.length co15 : Value).ownBlock) ∧ some k_ ≠ (.slice Ao16 t398.length co16 : Value).ownBlock)) (n := t382.length) (c := co9) ?_).2.2; exact (tRt HO384.out BK402.out)); (case side6 => exact (Kd.R_reads' HO384.out).2.1); (case side7 => refine (Kd.R_reads' (e := 3) (base := w.heap.size) (ok := fun k_ => ((some k_ ≠ (.slice Ao9 t382.length co9 : Value).ownBlock ∧ some k_ ≠ (.slice Ao15 t394.length co15 : Value).ownBlock) ∧ some k_ ≠ (.slice Ao16 t398.length co16 : Value).ownBlock)) (n := t386.length) (c := co10) ?_).2.2; exact (tRt HO388.out BK402.out)); (case side8 => exact (Kd.R_reads' HO388.out).2.1); rintro e w22 ⟨rfl, hb⟩; refine ⟨_, rfl, ?_⟩; replace HO384 := Aside0.mk (Kd.R_below (tRt HO384.out BK402.out) hb); replace HO388 := Aside0.mk (Kd.R_below (tRt HO388.out BK402.out) hb); replace HO396 := Aside0.mk (Kd.R_below (tRt HO396.out BK402.out) hb); replace HO400 := Aside0.mk (Kd.R_below (tRt HO400.out BK402.out) hb); replace BK390 := tBb BK390 hb; replace BK402 := tBp (o' := .cells #[.int .i64 t391, .int .i64 t392, .bool t393, .slice Ao15 t394.length co15, .bool t397, .slice Ao16 t398.length co16] 25 (0, 0)) BK402 hb; replace HB := tBs HB hb; (try clear hb); (try clear hb2); (try clear hk); (try clear hi)))
    go_meet
    case rel => exact ⟨_, ((t401 != t389)), tr, H', ⟨by first | omega | exact Nat.le_refl _⟩, ⟨tRm HO384.out⟩, ⟨tRm HO388.out⟩, ⟨tRm HO396.out⟩, ⟨tRm HO400.out⟩, ⟨tH BK390.out⟩, ⟨tH BK402.out⟩, ⟨zb⟩⟩
   ·replace c18 := Bool.eq_false_iff.mpr c18
    subst c18
    rw [if_neg (show ¬ (false = true) by decide)] at H
    have H' := Aside0.mk H
    clear H
    have hnb23 := NB402_390.out
    have hnc23 := NB390_402.out
    obtain ⟨hcz24_0, hcz24_1, hcz24_2, hcz24_3, hcz24_4, hcz24_5, hfz24_0, hfz24_1, hfz24_2, hfz24_3, hfz24_4, hfz24_5⟩ := cells6 BK402.out
    obtain ⟨hcz25_0, hcz25_1, hcz25_2, hcz25_3, hcz25_4, hcz25_5, hfz25_0, hfz25_1, hfz25_2, hfz25_3, hfz25_4, hfz25_5⟩ := cells6 BK390.out
    go_wp2_with (first | ((with_reducible refine gate_callee (f := 17) rfl ?_); refine goesL_ (some 26) rfl rfl Tryd.func17 (by kernel_rfl) rfl #[.agg #[.int .i64 t391, .int .i64 t392, .bool t393, .slice Ao15 t394.length co15, .bool t397, .slice Ao16 t398.length co16], .agg #[.int .i64 t379, .int .i64 t380, .bool t381, .slice Ao9 t382.length co9, .bool t385, .slice Ao10 t386.length co10]] rfl tq ?_; (with_reducible refine (laws_eqRecord.calls k t391 t392 t393 _ _ t394 t397 _ _ t398 t379 t380 t381 _ _ t382 t385 _ _ t386 false _ ?side1 ?side2 ?side3 ?side4 ?side5 ?side6 ?side7 ?side8 A17.out).mono ?_); (case side1 => refine (Kd.R_reads' (e := 3) (base := w.heap.size) (ok := fun k_ => ((some k_ ≠ (.slice Ao16 t398.length co16 : Value).ownBlock ∧ some k_ ≠ (.slice Ao9 t382.length co9 : Value).ownBlock) ∧ some k_ ≠ (.slice Ao10 t386.length co10 : Value).ownBlock)) (n := t394.length) (c := co15) ?_).2.2; exact (tRt HO396.out BK402.out)); (case side2 => exact (Kd.R_reads' HO396.out).2.1); (case side3 => refine (Kd.R_reads' (e := 3) (base := w.heap.size) (ok := fun k_ => ((some k_ ≠ (.slice Ao15 t394.length co15 : Value).ownBlock ∧ some k_ ≠ (.slice Ao9 t382.length co9 : Value).ownBlock) ∧ some k_ ≠ (.slice Ao10 t386.length co10 : Value).ownBlock)) (n := t398.length) (c := co16) ?_).2.2; exact (tRt HO400.out BK402.out)); (case side4 => exact (Kd.R_reads' HO400.out).2.1); (case side5 => refine (Kd.R_reads' (e := 3) (base := w.heap.size) (ok := fun k_ => ((some k_ ≠ (.slice Ao10 t386.length co10 : Value).ownBlock ∧ some k_ ≠ (.slice Ao15 t394.length co15 : Value).ownBlock) ∧ some k_ ≠ (.slice Ao16 t398.length co16 : Value).ownBlock)) (n := t382.length) (c := co9) ?_).2.2; exact (tRt HO384.out BK402.out)); (case side6 => exact (Kd.R_reads' HO384.out).2.1); (case side7 => refine (Kd.R_reads' (e := 3) (base := w.heap.size) (ok := fun k_ => ((some k_ ≠ (.slice Ao9 t382.length co9 : Value).ownBlock ∧ some k_ ≠ (.slice Ao15 t394.length co15 : Value).ownBlock) ∧ some k_ ≠ (.slice Ao16 t398.length co16 : Value).ownBlock)) (n := t386.length) (c := co10) ?_).2.2; exact (tRt HO388.out BK402.out)); (case side8 => exact (Kd.R_reads' HO388.out).2.1); rintro e w26 ⟨rfl, hb⟩; refine ⟨_, rfl, ?_⟩; replace HO384 := Aside0.mk (Kd.R_below (tRt HO384.out BK402.out) hb); replace HO388 := Aside0.mk (Kd.R_below (tRt HO388.out BK402.out) hb); replace HO396 := Aside0.mk (Kd.R_below (tRt HO396.out BK402.out) hb); replace HO400 := Aside0.mk (Kd.R_below (tRt HO400.out BK402.out) hb); replace BK390 := tBb BK390 hb; replace BK402 := tBp (o' := .cells #[.int .i64 t391, .int .i64 t392, .bool t393, .slice Ao15 t394.length co15, .bool t397, .slice Ao16 t398.length co16] 25 (0, 0)) BK402 hb; replace HB := tBs HB hb; (try clear hb); (try clear hb2); (try clear hk); (try clear hi)))
    go_meet
    case rel => exact ⟨_, (true), tr, H', ⟨by first | omega | exact Nat.le_refl _⟩, ⟨tRm HO384.out⟩, ⟨tRm HO388.out⟩, ⟨tRm HO396.out⟩, ⟨tRm HO400.out⟩, ⟨tH BK390.out⟩, ⟨tH BK402.out⟩, ⟨zb⟩⟩
  case rest =>
   clear HC5
   try clear c2; try clear c2b0; try clear c2b1; try clear hcz14_0; try clear hcz14_1; try clear hcz14_2; try clear hcz14_3; try clear hcz14_4; try clear hcz14_5; try clear hcz8_0; try clear hcz8_1; try clear hcz8_2; try clear hcz8_3; try clear hcz8_4; try clear hcz8_5; try clear hfz14_0; try clear hfz14_1; try clear hfz14_2; try clear hfz14_3; try clear hfz14_4; try clear hfz14_5; try clear hfz8_0; try clear hfz8_1; try clear hfz8_2; try clear hfz8_3; try clear hfz8_4; try clear hfz8_5
   obtain ⟨kq, x32_4, rfl, HA, HJ4, HO_391003, HO_391005, HO_403003, HO_403005, BK390, BK402, HB⟩ := hcut
   cases kq with
   | zero => exact absurd HA.out (by simp [laws_FnExactRecordOf.j0])
   | succ kj4 =>
    have H := HA.out
    clear HA
    simp only [laws_FnExactRecordOf.j0] at H
    by_cases c27 : x32_4 = true
    ·subst c27
     rw [if_pos rfl] at H
     obtain rfl := Option.some.inj H
     go_wp2
     all_goals go_ret
     all_goals exact ⟨by first | rfl | (simp [errW_none, errW_some] <;> rfl) | (simp [*, errW_none, errW_some] <;> rfl), zb⟩
    ·replace c27 := Bool.eq_false_iff.mpr c27
     subst c27
     rw [if_neg (show ¬ (false = true) by decide)] at H
     replace H := tbe H
     obtain ⟨⟨t404, t405, t406⟩, A28, H⟩ := H
     dsimp only at H
     replace H := tbe H
     obtain ⟨t407, A29, H⟩ := H
     by_cases c30 : t407 < 0
     ·rw [if_pos c30] at H
      have c30b0 : decide (t407 < 0) = true := decide_eq_true c30
      clear c30
      obtain rfl := Option.some.inj H
      have hnb31 := NB402_390.out
      have hnc31 := NB390_402.out
      obtain ⟨hcz32_0, hcz32_1, hcz32_2, hcz32_3, hcz32_4, hcz32_5, hfz32_0, hfz32_1, hfz32_2, hfz32_3, hfz32_4, hfz32_5⟩ := cells6 BK402.out
      go_wp2_with (first | ((with_reducible refine gate_callee (f := 20) rfl ?_); refine goesL_ (some 35) rfl rfl Tryd.func20 (by kernel_rfl) rfl #[.agg #[.int .i64 t391, .int .i64 t392, .bool t393, .slice Ao15 t394.length co15, .bool t397, .slice Ao16 t398.length co16], .int .i64 1] rfl tq ?_; (with_reducible refine (laws_markRecord.calls kj4 t391 t392 t393 (fun k_ => some k_ = (.slice Ao15 t394.length co15 : Value).ownBlock) (.slice Ao15 t394.length co15) t394 t397 (fun k_ => some k_ = (.slice Ao16 t398.length co16 : Value).ownBlock) (.slice Ao16 t398.length co16) t398 1 t404 t405 t406 w _ ?side1 ?side2 ?side3 ?side4 ?side5 A28.out).mono ?_); (case side1 => exact zb); (case side2 => exact Kd.R_tight rfl HO_403003.out); (case side3 => exact fun k_ e_ => (HO_403003.out.1 k_ e_.symm).2.2); (case side4 => exact Kd.R_tight rfl HO_403005.out); (case side5 => exact fun k_ e_ => (HO_403005.out.1 k_ e_.symm).2.2); rintro e w33 ⟨rfl, hy0, hy1, hb, hkp⟩; refine ⟨_, rfl, ?_⟩; replace HO_391003 := Aside0.mk (Kd.R_mono (ok' := fun k_ => some k_ ≠ (.slice Ao10 t386.length co10 : Value).ownBlock ∧ some k_ ≠ (.slice Ao15 t394.length co15 : Value).ownBlock ∧ some k_ ≠ (.slice Ao16 t398.length co16 : Value).ownBlock) (Kd.R_keptB (HO_391003.out) hkp (fun k_ hk_ hs_ => Or.elim hs_ (fun e_ => (hk_.2.1) e_) (fun e_ => (hk_.2.2) e_))) (fun k_ hk_ => ⟨hk_.1.1, hk_.1.2.1, hk_.1.2.2⟩)); replace HO_391005 := Aside0.mk (Kd.R_mono (ok' := fun k_ => some k_ ≠ (.slice Ao9 t382.length co9 : Value).ownBlock ∧ some k_ ≠ (.slice Ao15 t394.length co15 : Value).ownBlock ∧ some k_ ≠ (.slice Ao16 t398.length co16 : Value).ownBlock) (Kd.R_keptB (HO_391005.out) hkp (fun k_ hk_ hs_ => Or.elim hs_ (fun e_ => (hk_.2.1) e_) (fun e_ => (hk_.2.2) e_))) (fun k_ hk_ => ⟨hk_.1.1, hk_.1.2.1, hk_.1.2.2⟩)); replace BK390 := Aside0.mk (blk_kept (tH BK390.out) hkp (fun hs_ => Or.elim hs_ (fun e_ => (fun e_ => (Kd.R_ne HO_403003.out BK390.out (by decide)) e_) e_) (fun e_ => (fun e_ => (Kd.R_ne HO_403005.out BK390.out (by decide)) e_) e_))); replace BK402 := Aside0.mk (blk_kept (tH BK402.out) hkp (fun hs_ => Or.elim hs_ (fun e_ => (fun e_ => (Kd.R_ne HO_403003.out BK402.out (by decide)) e_) e_) (fun e_ => (fun e_ => (Kd.R_ne HO_403005.out BK402.out (by decide)) e_) e_))); replace HO_403003 := Aside0.mk (Kd.R_reok rfl hy0 (fun k_ e_ => HO_403003.out.1 k_ e_)); replace HO_403005 := Aside0.mk (Kd.R_reok rfl hy1 (fun k_ e_ => HO_403005.out.1 k_ e_)); replace HB := Aside0.mk (hb); (try clear hb); (try clear hkp); (try clear hy0); (try clear hy1); obtain ⟨hcz34_0, hcz34_1, hcz34_2, hcz34_3, hcz34_4, hcz34_5, hfz34_0, hfz34_1, hfz34_2, hfz34_3, hfz34_4, hfz34_5⟩ := cells6 BK402.out) | ((with_reducible refine gate_callee (f := 21) rfl ?_); refine goesL_ (some 38) rfl rfl Tryd.func21 (by kernel_rfl) rfl #[.agg #[.int .i64 t391, .int .i64 t392, .bool t393, .slice Ao15 t405.length co15, .bool t397, .slice Ao16 t406.length co16], .int .i64 1] rfl (by (try simp only [List.map_toArray, List.map_cons, List.map_nil]); first | done | (rw [show t405.length = t394.length from (Kd.R_reads' HO_403003.out).1.symm, show t406.length = t398.length from (Kd.R_reads' HO_403005.out).1.symm] <;> rfl) | rfl | (simp only [List.length_drop, List.length_take]; rfl)) ?_; (with_reducible refine (laws_heldRecord.calls kj4 t391 t392 t393 _ _ t405 t397 _ _ t406 1 t407 _ ?side1 ?side2 ?side3 ?side4 A29.out).mono ?_); (case side1 => repeat (first | exact (Kd.R_reads' HO_403003.out).2.2 | (with_reducible refine Kd.C_alloc ?_ _) | (with_reducible refine Kd.C_drewN ?_ _) | (with_reducible refine Kd.C_drew ?_))); (case side2 => rw [show t405.length = t394.length from (Kd.R_reads' HO_403003.out).1.symm]; exact (Kd.R_reads' HO_403003.out).2.1); (case side3 => repeat (first | exact (Kd.R_reads' HO_403005.out).2.2 | (with_reducible refine Kd.C_alloc ?_ _) | (with_reducible refine Kd.C_drewN ?_ _) | (with_reducible refine Kd.C_drew ?_))); (case side4 => rw [show t406.length = t398.length from (Kd.R_reads' HO_403005.out).1.symm]; exact (Kd.R_reads' HO_403005.out).2.1); rintro e w35 ⟨rfl, hb⟩; refine ⟨_, rfl, ?_⟩; replace HO_391003 := tRb HO_391003 hb; replace HO_391005 := tRb HO_391005 hb; replace HO_403003 := tRb HO_403003 hb; replace HO_403005 := tRb HO_403005 hb; replace BK390 := tBb BK390 hb; replace BK402 := tBb BK402 hb; replace HB := tBs HB hb; (try clear hb); (try clear hb2); (try clear hk); (try clear hi)))
      all_goals go_ret
      all_goals exact ⟨by first | rfl | (simp [errW_none, errW_some] <;> rfl) | (simp [*, errW_none, errW_some] <;> rfl), zb⟩
     ·rw [if_neg c30] at H
      have c30b0 : decide (t407 < 0) = false := decide_eq_false c30
      clear c30
      by_cases c36 : t407 = t404
      ·rw [if_pos c36] at H
       have c36b0 : (t407 == t404) = true := beq_iff_eq.mpr c36
       have c36b1 : (t407 != t404) = false := bne_eq_false_iff_eq.mpr c36
       clear c36
       replace H := tbe H
       obtain ⟨⟨t408, t409, t410, t411, t414, t415, t418⟩, A37, H⟩ := H
       dsimp only at H
       have HC38 := Aside0.mk H
       clear H
       have hnb39 := NB402_390.out
       have hnc39 := NB390_402.out
       obtain ⟨hcz40_0, hcz40_1, hcz40_2, hcz40_3, hcz40_4, hcz40_5, hfz40_0, hfz40_1, hfz40_2, hfz40_3, hfz40_4, hfz40_5⟩ := cells6 BK402.out
       go_upto_region 16 with (first | ((with_reducible refine gate_callee (f := 20) rfl ?_); refine goesL_ (some 35) rfl rfl Tryd.func20 (by kernel_rfl) rfl #[.agg #[.int .i64 t391, .int .i64 t392, .bool t393, .slice Ao15 t394.length co15, .bool t397, .slice Ao16 t398.length co16], .int .i64 1] rfl tq ?_; (with_reducible refine (laws_markRecord.calls kj4 t391 t392 t393 (fun k_ => some k_ = (.slice Ao15 t394.length co15 : Value).ownBlock) (.slice Ao15 t394.length co15) t394 t397 (fun k_ => some k_ = (.slice Ao16 t398.length co16 : Value).ownBlock) (.slice Ao16 t398.length co16) t398 1 t404 t405 t406 w _ ?side1 ?side2 ?side3 ?side4 ?side5 A28.out).mono ?_); (case side1 => exact zb); (case side2 => exact Kd.R_tight rfl HO_403003.out); (case side3 => exact fun k_ e_ => (HO_403003.out.1 k_ e_.symm).2.2); (case side4 => exact Kd.R_tight rfl HO_403005.out); (case side5 => exact fun k_ e_ => (HO_403005.out.1 k_ e_.symm).2.2); rintro e w41 ⟨rfl, hy0, hy1, hb, hkp⟩; refine ⟨_, rfl, ?_⟩; replace HO_391003 := Aside0.mk (Kd.R_mono (ok' := fun k_ => some k_ ≠ (.slice Ao10 t386.length co10 : Value).ownBlock ∧ some k_ ≠ (.slice Ao15 t394.length co15 : Value).ownBlock ∧ some k_ ≠ (.slice Ao16 t398.length co16 : Value).ownBlock) (Kd.R_keptB (HO_391003.out) hkp (fun k_ hk_ hs_ => Or.elim hs_ (fun e_ => (hk_.2.1) e_) (fun e_ => (hk_.2.2) e_))) (fun k_ hk_ => ⟨hk_.1.1, hk_.1.2.1, hk_.1.2.2⟩)); replace HO_391005 := Aside0.mk (Kd.R_mono (ok' := fun k_ => some k_ ≠ (.slice Ao9 t382.length co9 : Value).ownBlock ∧ some k_ ≠ (.slice Ao15 t394.length co15 : Value).ownBlock ∧ some k_ ≠ (.slice Ao16 t398.length co16 : Value).ownBlock) (Kd.R_keptB (HO_391005.out) hkp (fun k_ hk_ hs_ => Or.elim hs_ (fun e_ => (hk_.2.1) e_) (fun e_ => (hk_.2.2) e_))) (fun k_ hk_ => ⟨hk_.1.1, hk_.1.2.1, hk_.1.2.2⟩)); replace BK390 := Aside0.mk (blk_kept (tH BK390.out) hkp (fun hs_ => Or.elim hs_ (fun e_ => (fun e_ => (Kd.R_ne HO_403003.out BK390.out (by decide)) e_) e_) (fun e_ => (fun e_ => (Kd.R_ne HO_403005.out BK390.out (by decide)) e_) e_))); replace BK402 := Aside0.mk (blk_kept (tH BK402.out) hkp (fun hs_ => Or.elim hs_ (fun e_ => (fun e_ => (Kd.R_ne HO_403003.out BK402.out (by decide)) e_) e_) (fun e_ => (fun e_ => (Kd.R_ne HO_403005.out BK402.out (by decide)) e_) e_))); replace HO_403003 := Aside0.mk (Kd.R_reok rfl hy0 (fun k_ e_ => HO_403003.out.1 k_ e_)); replace HO_403005 := Aside0.mk (Kd.R_reok rfl hy1 (fun k_ e_ => HO_403005.out.1 k_ e_)); replace HB := Aside0.mk (hb); (try clear hb); (try clear hkp); (try clear hy0); (try clear hy1); obtain ⟨hcz42_0, hcz42_1, hcz42_2, hcz42_3, hcz42_4, hcz42_5, hfz42_0, hfz42_1, hfz42_2, hfz42_3, hfz42_4, hfz42_5⟩ := cells6 BK402.out) | ((with_reducible refine gate_callee (f := 21) rfl ?_); refine goesL_ (some 38) rfl rfl Tryd.func21 (by kernel_rfl) rfl #[.agg #[.int .i64 t391, .int .i64 t392, .bool t393, .slice Ao15 t405.length co15, .bool t397, .slice Ao16 t406.length co16], .int .i64 1] rfl (by (try simp only [List.map_toArray, List.map_cons, List.map_nil]); first | done | (rw [show t405.length = t394.length from (Kd.R_reads' HO_403003.out).1.symm, show t406.length = t398.length from (Kd.R_reads' HO_403005.out).1.symm] <;> rfl) | rfl | (simp only [List.length_drop, List.length_take]; rfl)) ?_; (with_reducible refine (laws_heldRecord.calls kj4 t391 t392 t393 _ _ t405 t397 _ _ t406 1 t407 _ ?side1 ?side2 ?side3 ?side4 A29.out).mono ?_); (case side1 => repeat (first | exact (Kd.R_reads' HO_403003.out).2.2 | (with_reducible refine Kd.C_alloc ?_ _) | (with_reducible refine Kd.C_drewN ?_ _) | (with_reducible refine Kd.C_drew ?_))); (case side2 => rw [show t405.length = t394.length from (Kd.R_reads' HO_403003.out).1.symm]; exact (Kd.R_reads' HO_403003.out).2.1); (case side3 => repeat (first | exact (Kd.R_reads' HO_403005.out).2.2 | (with_reducible refine Kd.C_alloc ?_ _) | (with_reducible refine Kd.C_drewN ?_ _) | (with_reducible refine Kd.C_drew ?_))); (case side4 => rw [show t406.length = t398.length from (Kd.R_reads' HO_403005.out).1.symm]; exact (Kd.R_reads' HO_403005.out).2.1); rintro e w43 ⟨rfl, hb⟩; refine ⟨_, rfl, ?_⟩; replace HO_391003 := tRb HO_391003 hb; replace HO_391005 := tRb HO_391005 hb; replace HO_403003 := tRb HO_403003 hb; replace HO_403005 := tRb HO_403005 hb; replace BK390 := tBb BK390 hb; replace BK402 := tBb BK402 hb; replace HB := tBs HB hb; (try clear hb); (try clear hb2); (try clear hk); (try clear hi)) | ((with_reducible refine gate_callee (f := 19) rfl ?_); refine goesL_ (some 46) rfl rfl Tryd.func19 (by kernel_rfl) rfl #[.string a0] rfl tq ?_; (with_reducible refine (impl_RecordOf.calls (hE := ?sideE) kj4 a0 t408 t409 t410 t411 t414 t415 t418 _ A37.out).mono ?_); (case sideE => exact ErrOk.below (HE.out.sub (by decide)) zb); rintro e w44 ⟨v412, v416, rfl, ho0, ho1, hb⟩; have u_v412 := tsv Tryd.prog v412 ho0; have u_v416 := tsv Tryd.prog v416 ho1; refine ⟨_, rfl, ?_⟩; have HO413 := Aside0.mk (Kd.R_lower (Kd.R_new' (Kd.R_new' (Kd.R_new' (Kd.R_new' ho0 (Kd.R_lt (tR HO_391003.out))) (Kd.R_lt (tR HO_391005.out))) (Kd.R_lt (tR HO_403003.out))) (Kd.R_lt (tR HO_403005.out))) (below_size zb)); have HO417 := Aside0.mk (Kd.R_lower (Kd.R_new' (Kd.R_new' (Kd.R_new' (Kd.R_new' ho1 (Kd.R_lt (tR HO_391003.out))) (Kd.R_lt (tR HO_391005.out))) (Kd.R_lt (tR HO_403003.out))) (Kd.R_lt (tR HO_403005.out))) (below_size zb)); replace HO_391003 := Aside0.mk (Kd.R_mono (Kd.R_told (Kd.R_told (Kd.R_old (tR HO_391003.out) hb) (Kd.R_base ho0)) (Kd.R_base ho1)) (fun _ h_ => h_.1)); replace HO_391005 := Aside0.mk (Kd.R_mono (Kd.R_told (Kd.R_told (Kd.R_old (tR HO_391005.out) hb) (Kd.R_base ho0)) (Kd.R_base ho1)) (fun _ h_ => h_.1)); replace HO_403003 := Aside0.mk (Kd.R_mono (Kd.R_told (Kd.R_told (Kd.R_old (tR HO_403003.out) hb) (Kd.R_base ho0)) (Kd.R_base ho1)) (fun _ h_ => h_.1)); replace HO_403005 := Aside0.mk (Kd.R_mono (Kd.R_told (Kd.R_told (Kd.R_old (tR HO_403005.out) hb) (Kd.R_base ho0)) (Kd.R_base ho1)) (fun _ h_ => h_.1)); replace BK390 := tBb BK390 hb; replace BK402 := tBb BK402 hb; replace HB := tBs HB hb; (try clear hb); (try clear hb2); (try clear hk); (try clear hi); (try clear ho0); (try clear ho1)) | ((with_reducible refine gate_dst (N := 9) rfl ?_); refine box_event ?hg (N := 9) ?hd (cs := #[.int .i64 0, .int .i64 0, .bool false, .slice none 0 0, .bool false, .slice none 0 0]) (t := 25) ?hr ?_; (case hd => rfl); (case hg => rfl); (case hr => first | (go_simp; done) | (go_simp; rfl)); intro gb419 hg w45 hbox hb; replace HO_391003 := tRb HO_391003 hb; replace HO_391005 := tRb HO_391005 hb; replace HO_403003 := tRb HO_403003 hb; replace HO_403005 := tRb HO_403005 hb; replace HO413 := tRb HO413 hb; replace HO417 := tRb HO417 hb; have BK419 := Aside0.mk (hbox); have GW419 := tge HB hg; have GE419 := tge HB hg; replace HB := tBs HB hb; have NB390_419 := tlt BK390 hg; have NB419_390 := tgt BK390 hg; replace BK390 := tBb BK390 hb; have NB402_419 := tlt BK402 hg; have NB419_402 := tgt BK402 hg; replace BK402 := tBb BK402 hb; clear hb hbox hg; have hnb46 := NB419_390.out; have hnc46 := NB390_419.out; have hnb47 := NB419_402.out; have hnc47 := NB402_419.out; obtain ⟨hcz48_0, hcz48_1, hcz48_2, hcz48_3, hcz48_4, hcz48_5, hfz48_0, hfz48_1, hfz48_2, hfz48_3, hfz48_4, hfz48_5⟩ := cells6 BK419.out; obtain ⟨Ao49, co49, eo49⟩ := Kd.R_slice HO413.out; subst eo49; obtain ⟨Ao50, co50, eo50⟩ := Kd.R_slice HO417.out; subst eo50))
       (try simp only [Act.put, List.setIfInBounds_toArray, List.set_cons_zero, List.set_cons_succ])
       go_cut [57] (fun v57 wc => ∃ (kq : Nat) (x57_37 : Bool), v57 = .bool x57_37 ∧ Aside0 (laws_FnExactRecordOf.j1 kq t404 x57_37 t391 t392 t393 t405 t397 t406 = some r) ∧ Aside0 (kq ≤ kj4) ∧ Aside0 (Kd.R (Kd.int .i64) 3 wc w.heap.size (fun k_ => some k_ ≠ ((.slice Ao10 t386.length co10) : Value).ownBlock ∧ some k_ ≠ ((.slice Ao15 t394.length co15) : Value).ownBlock ∧ some k_ ≠ ((.slice Ao16 t398.length co16) : Value).ownBlock ∧ some k_ ≠ ((.slice Ao49 t411.length co49) : Value).ownBlock ∧ some k_ ≠ ((.slice Ao50 t415.length co50) : Value).ownBlock) (.slice Ao9 t382.length co9) t382) ∧ Aside0 (Kd.R (Kd.int .i64) 3 wc w.heap.size (fun k_ => some k_ ≠ ((.slice Ao9 t382.length co9) : Value).ownBlock ∧ some k_ ≠ ((.slice Ao15 t394.length co15) : Value).ownBlock ∧ some k_ ≠ ((.slice Ao16 t398.length co16) : Value).ownBlock ∧ some k_ ≠ ((.slice Ao49 t411.length co49) : Value).ownBlock ∧ some k_ ≠ ((.slice Ao50 t415.length co50) : Value).ownBlock) (.slice Ao10 t386.length co10) t386) ∧ Aside0 (Kd.R (Kd.int .i64) 3 wc w.heap.size (fun k_ => some k_ ≠ ((.slice Ao9 t382.length co9) : Value).ownBlock ∧ some k_ ≠ ((.slice Ao10 t386.length co10) : Value).ownBlock ∧ some k_ ≠ ((.slice Ao16 t398.length co16) : Value).ownBlock ∧ some k_ ≠ ((.slice Ao49 t411.length co49) : Value).ownBlock ∧ some k_ ≠ ((.slice Ao50 t415.length co50) : Value).ownBlock) (.slice Ao15 t394.length co15) t405) ∧ Aside0 (Kd.R (Kd.int .i64) 3 wc w.heap.size (fun k_ => some k_ ≠ ((.slice Ao9 t382.length co9) : Value).ownBlock ∧ some k_ ≠ ((.slice Ao10 t386.length co10) : Value).ownBlock ∧ some k_ ≠ ((.slice Ao15 t394.length co15) : Value).ownBlock ∧ some k_ ≠ ((.slice Ao49 t411.length co49) : Value).ownBlock ∧ some k_ ≠ ((.slice Ao50 t415.length co50) : Value).ownBlock) (.slice Ao16 t398.length co16) t406) ∧ Aside0 (Kd.R (Kd.int .i64) 3 wc w.heap.size (fun k_ => some k_ ≠ ((.slice Ao9 t382.length co9) : Value).ownBlock ∧ some k_ ≠ ((.slice Ao10 t386.length co10) : Value).ownBlock ∧ some k_ ≠ ((.slice Ao15 t394.length co15) : Value).ownBlock ∧ some k_ ≠ ((.slice Ao16 t398.length co16) : Value).ownBlock ∧ some k_ ≠ ((.slice Ao50 t415.length co50) : Value).ownBlock) (.slice Ao49 t411.length co49) t411) ∧ Aside0 (Kd.R (Kd.int .i64) 3 wc w.heap.size (fun k_ => some k_ ≠ ((.slice Ao9 t382.length co9) : Value).ownBlock ∧ some k_ ≠ ((.slice Ao10 t386.length co10) : Value).ownBlock ∧ some k_ ≠ ((.slice Ao15 t394.length co15) : Value).ownBlock ∧ some k_ ≠ ((.slice Ao16 t398.length co16) : Value).ownBlock ∧ some k_ ≠ ((.slice Ao49 t411.length co49) : Value).ownBlock) (.slice Ao50 t415.length co50) t415) ∧ Aside0 (wc.heap[gb390]? = some (.cells #[.int .i64 t379, .int .i64 t380, .bool t381, (.slice Ao9 t382.length co9), .bool t385, (.slice Ao10 t386.length co10)] 25 (0, 0))) ∧ Aside0 (wc.heap[gb402]? = some (.cells #[.int .i64 t391, .int .i64 t392, .bool t393, (.slice Ao15 t394.length co15), .bool t397, (.slice Ao16 t398.length co16)] 25 (0, 0))) ∧ Aside0 (wc.heap[gb419]? = some (.cells #[.int .i64 t408, .int .i64 t409, .bool t410, (.slice Ao49 t411.length co49), .bool t414, (.slice Ao50 t415.length co50)] 25 (0, 0))) ∧ Aside0 (Below w.heap.size w wc))
       case first =>
        have H := HC38.out
        clear HC38
        replace H := tbe H
        obtain ⟨t420, A51, H⟩ := H
        by_cases c52 : t420 = true
        ·subst c52
         rw [if_pos rfl] at H
         have H' := Aside0.mk H
         clear H
         have hnb53 := NB419_390.out
         have hnc53 := NB390_419.out
         have hnb54 := NB419_402.out
         have hnc54 := NB402_419.out
         obtain ⟨hcz55_0, hcz55_1, hcz55_2, hcz55_3, hcz55_4, hcz55_5, hfz55_0, hfz55_1, hfz55_2, hfz55_3, hfz55_4, hfz55_5⟩ := cells6 BK419.out
         have hnb56 := NB390_402.out
         have hnc56 := NB402_390.out
         obtain ⟨hcz57_0, hcz57_1, hcz57_2, hcz57_3, hcz57_4, hcz57_5, hfz57_0, hfz57_1, hfz57_2, hfz57_3, hfz57_4, hfz57_5⟩ := cells6 BK390.out
         go_wp2_with (first | ((with_reducible refine gate_callee (f := 17) rfl ?_); refine goesL_ (some 51) rfl rfl Tryd.func17 (by kernel_rfl) rfl #[.agg #[.int .i64 t408, .int .i64 t409, .bool t410, .slice Ao49 t411.length co49, .bool t414, .slice Ao50 t415.length co50], .agg #[.int .i64 t379, .int .i64 t380, .bool t381, .slice Ao9 t382.length co9, .bool t385, .slice Ao10 t386.length co10]] rfl tq ?_; (with_reducible refine (laws_eqRecord.calls kj4 t408 t409 t410 _ _ t411 t414 _ _ t415 t379 t380 t381 _ _ t382 t385 _ _ t386 true _ ?side1 ?side2 ?side3 ?side4 ?side5 ?side6 ?side7 ?side8 A51.out).mono ?_); (case side1 => refine (Kd.R_reads' (e := 3) (base := w.heap.size) (ok := fun k_ => ((((some k_ ≠ (.slice Ao50 t415.length co50 : Value).ownBlock ∧ some k_ ≠ (.slice Ao9 t382.length co9 : Value).ownBlock) ∧ some k_ ≠ (.slice Ao10 t386.length co10 : Value).ownBlock) ∧ some k_ ≠ (.slice Ao15 t394.length co15 : Value).ownBlock) ∧ some k_ ≠ (.slice Ao16 t398.length co16 : Value).ownBlock)) (n := t411.length) (c := co49) ?_).2.2; exact (tRt HO413.out BK419.out)); (case side2 => exact (Kd.R_reads' HO413.out).2.1); (case side3 => refine (Kd.R_reads' (e := 3) (base := w.heap.size) (ok := fun k_ => ((((some k_ ≠ (.slice Ao49 t411.length co49 : Value).ownBlock ∧ some k_ ≠ (.slice Ao9 t382.length co9 : Value).ownBlock) ∧ some k_ ≠ (.slice Ao10 t386.length co10 : Value).ownBlock) ∧ some k_ ≠ (.slice Ao15 t394.length co15 : Value).ownBlock) ∧ some k_ ≠ (.slice Ao16 t398.length co16 : Value).ownBlock)) (n := t415.length) (c := co50) ?_).2.2; exact (tRt HO417.out BK419.out)); (case side4 => exact (Kd.R_reads' HO417.out).2.1); (case side5 => refine (Kd.R_reads' (e := 3) (base := w.heap.size) (ok := fun k_ => (((some k_ ≠ (.slice Ao10 t386.length co10 : Value).ownBlock ∧ (some k_ ≠ (.slice Ao15 t394.length co15 : Value).ownBlock ∧ some k_ ≠ (.slice Ao16 t398.length co16 : Value).ownBlock)) ∧ some k_ ≠ (.slice Ao49 t411.length co49 : Value).ownBlock) ∧ some k_ ≠ (.slice Ao50 t415.length co50 : Value).ownBlock)) (n := t382.length) (c := co9) ?_).2.2; exact (tRt HO_391003.out BK419.out)); (case side6 => exact (Kd.R_reads' HO_391003.out).2.1); (case side7 => refine (Kd.R_reads' (e := 3) (base := w.heap.size) (ok := fun k_ => (((some k_ ≠ (.slice Ao9 t382.length co9 : Value).ownBlock ∧ (some k_ ≠ (.slice Ao15 t394.length co15 : Value).ownBlock ∧ some k_ ≠ (.slice Ao16 t398.length co16 : Value).ownBlock)) ∧ some k_ ≠ (.slice Ao49 t411.length co49 : Value).ownBlock) ∧ some k_ ≠ (.slice Ao50 t415.length co50 : Value).ownBlock)) (n := t386.length) (c := co10) ?_).2.2; exact (tRt HO_391005.out BK419.out)); (case side8 => exact (Kd.R_reads' HO_391005.out).2.1); rintro e w58 ⟨rfl, hb⟩; refine ⟨_, rfl, ?_⟩; replace HO_391003 := Aside0.mk (Kd.R_below (tRt HO_391003.out BK419.out) hb); replace HO_391005 := Aside0.mk (Kd.R_below (tRt HO_391005.out BK419.out) hb); replace HO_403003 := Aside0.mk (Kd.R_below (tRt HO_403003.out BK419.out) hb); replace HO_403005 := Aside0.mk (Kd.R_below (tRt HO_403005.out BK419.out) hb); replace HO413 := Aside0.mk (Kd.R_below (tRt HO413.out BK419.out) hb); replace HO417 := Aside0.mk (Kd.R_below (tRt HO417.out BK419.out) hb); replace BK390 := tBb BK390 hb; replace BK402 := tBb BK402 hb; replace BK419 := tBp (o' := .cells #[.int .i64 t408, .int .i64 t409, .bool t410, .slice Ao49 t411.length co49, .bool t414, .slice Ao50 t415.length co50] 25 (0, 0)) BK419 hb; replace HB := tBs HB hb; (try clear hb); (try clear hb2); (try clear hk); (try clear hi)))
         go_meet
         case rel => exact ⟨_, ((t418 != t389)), tr, H', ⟨by have := HJ4.out; first | omega | exact Nat.le_refl _⟩, ⟨tRm HO_391003.out⟩, ⟨tRm HO_391005.out⟩, ⟨tRm HO_403003.out⟩, ⟨tRm HO_403005.out⟩, ⟨tRm HO413.out⟩, ⟨tRm HO417.out⟩, ⟨tH BK390.out⟩, ⟨tH BK402.out⟩, ⟨tH BK419.out⟩, ⟨zb⟩⟩
        ·replace c52 := Bool.eq_false_iff.mpr c52
         subst c52
         rw [if_neg (show ¬ (false = true) by decide)] at H
         have H' := Aside0.mk H
         clear H
         have hnb59 := NB419_390.out
         have hnc59 := NB390_419.out
         have hnb60 := NB419_402.out
         have hnc60 := NB402_419.out
         obtain ⟨hcz61_0, hcz61_1, hcz61_2, hcz61_3, hcz61_4, hcz61_5, hfz61_0, hfz61_1, hfz61_2, hfz61_3, hfz61_4, hfz61_5⟩ := cells6 BK419.out
         have hnb62 := NB390_402.out
         have hnc62 := NB402_390.out
         obtain ⟨hcz63_0, hcz63_1, hcz63_2, hcz63_3, hcz63_4, hcz63_5, hfz63_0, hfz63_1, hfz63_2, hfz63_3, hfz63_4, hfz63_5⟩ := cells6 BK390.out
         go_wp2_with (first | ((with_reducible refine gate_callee (f := 17) rfl ?_); refine goesL_ (some 51) rfl rfl Tryd.func17 (by kernel_rfl) rfl #[.agg #[.int .i64 t408, .int .i64 t409, .bool t410, .slice Ao49 t411.length co49, .bool t414, .slice Ao50 t415.length co50], .agg #[.int .i64 t379, .int .i64 t380, .bool t381, .slice Ao9 t382.length co9, .bool t385, .slice Ao10 t386.length co10]] rfl tq ?_; (with_reducible refine (laws_eqRecord.calls kj4 t408 t409 t410 _ _ t411 t414 _ _ t415 t379 t380 t381 _ _ t382 t385 _ _ t386 false _ ?side1 ?side2 ?side3 ?side4 ?side5 ?side6 ?side7 ?side8 A51.out).mono ?_); (case side1 => refine (Kd.R_reads' (e := 3) (base := w.heap.size) (ok := fun k_ => ((((some k_ ≠ (.slice Ao50 t415.length co50 : Value).ownBlock ∧ some k_ ≠ (.slice Ao9 t382.length co9 : Value).ownBlock) ∧ some k_ ≠ (.slice Ao10 t386.length co10 : Value).ownBlock) ∧ some k_ ≠ (.slice Ao15 t394.length co15 : Value).ownBlock) ∧ some k_ ≠ (.slice Ao16 t398.length co16 : Value).ownBlock)) (n := t411.length) (c := co49) ?_).2.2; exact (tRt HO413.out BK419.out)); (case side2 => exact (Kd.R_reads' HO413.out).2.1); (case side3 => refine (Kd.R_reads' (e := 3) (base := w.heap.size) (ok := fun k_ => ((((some k_ ≠ (.slice Ao49 t411.length co49 : Value).ownBlock ∧ some k_ ≠ (.slice Ao9 t382.length co9 : Value).ownBlock) ∧ some k_ ≠ (.slice Ao10 t386.length co10 : Value).ownBlock) ∧ some k_ ≠ (.slice Ao15 t394.length co15 : Value).ownBlock) ∧ some k_ ≠ (.slice Ao16 t398.length co16 : Value).ownBlock)) (n := t415.length) (c := co50) ?_).2.2; exact (tRt HO417.out BK419.out)); (case side4 => exact (Kd.R_reads' HO417.out).2.1); (case side5 => refine (Kd.R_reads' (e := 3) (base := w.heap.size) (ok := fun k_ => (((some k_ ≠ (.slice Ao10 t386.length co10 : Value).ownBlock ∧ (some k_ ≠ (.slice Ao15 t394.length co15 : Value).ownBlock ∧ some k_ ≠ (.slice Ao16 t398.length co16 : Value).ownBlock)) ∧ some k_ ≠ (.slice Ao49 t411.length co49 : Value).ownBlock) ∧ some k_ ≠ (.slice Ao50 t415.length co50 : Value).ownBlock)) (n := t382.length) (c := co9) ?_).2.2; exact (tRt HO_391003.out BK419.out)); (case side6 => exact (Kd.R_reads' HO_391003.out).2.1); (case side7 => refine (Kd.R_reads' (e := 3) (base := w.heap.size) (ok := fun k_ => (((some k_ ≠ (.slice Ao9 t382.length co9 : Value).ownBlock ∧ (some k_ ≠ (.slice Ao15 t394.length co15 : Value).ownBlock ∧ some k_ ≠ (.slice Ao16 t398.length co16 : Value).ownBlock)) ∧ some k_ ≠ (.slice Ao49 t411.length co49 : Value).ownBlock) ∧ some k_ ≠ (.slice Ao50 t415.length co50 : Value).ownBlock)) (n := t386.length) (c := co10) ?_).2.2; exact (tRt HO_391005.out BK419.out)); (case side8 => exact (Kd.R_reads' HO_391005.out).2.1); rintro e w64 ⟨rfl, hb⟩; refine ⟨_, rfl, ?_⟩; replace HO_391003 := Aside0.mk (Kd.R_below (tRt HO_391003.out BK419.out) hb); replace HO_391005 := Aside0.mk (Kd.R_below (tRt HO_391005.out BK419.out) hb); replace HO_403003 := Aside0.mk (Kd.R_below (tRt HO_403003.out BK419.out) hb); replace HO_403005 := Aside0.mk (Kd.R_below (tRt HO_403005.out BK419.out) hb); replace HO413 := Aside0.mk (Kd.R_below (tRt HO413.out BK419.out) hb); replace HO417 := Aside0.mk (Kd.R_below (tRt HO417.out BK419.out) hb); replace BK390 := tBb BK390 hb; replace BK402 := tBb BK402 hb; replace BK419 := tBp (o' := .cells #[.int .i64 t408, .int .i64 t409, .bool t410, .slice Ao49 t411.length co49, .bool t414, .slice Ao50 t415.length co50] 25 (0, 0)) BK419 hb; replace HB := tBs HB hb; (try clear hb); (try clear hb2); (try clear hk); (try clear hi)))
         go_meet
         case rel => exact ⟨_, (true), tr, H', ⟨by have := HJ4.out; first | omega | exact Nat.le_refl _⟩, ⟨tRm HO_391003.out⟩, ⟨tRm HO_391005.out⟩, ⟨tRm HO_403003.out⟩, ⟨tRm HO_403005.out⟩, ⟨tRm HO413.out⟩, ⟨tRm HO417.out⟩, ⟨tH BK390.out⟩, ⟨tH BK402.out⟩, ⟨tH BK419.out⟩, ⟨zb⟩⟩
       case rest =>
        clear HC38
        try clear c2; try clear c2b0; try clear c2b1; try clear c27; try clear c30; try clear c30b0; try clear c36; try clear c36b0; try clear c36b1; try clear hcz14_0; try clear hcz14_1; try clear hcz14_2; try clear hcz14_3; try clear hcz14_4; try clear hcz14_5; try clear hcz40_0; try clear hcz40_1; try clear hcz40_2; try clear hcz40_3; try clear hcz40_4; try clear hcz40_5; try clear hcz42_0; try clear hcz42_1; try clear hcz42_2; try clear hcz42_3; try clear hcz42_4; try clear hcz42_5; try clear hcz48_0; try clear hcz48_1; try clear hcz48_2; try clear hcz48_3; try clear hcz48_4; try clear hcz48_5; try clear hcz8_0; try clear hcz8_1; try clear hcz8_2; try clear hcz8_3; try clear hcz8_4; try clear hcz8_5; try clear hfz14_0; try clear hfz14_1; try clear hfz14_2; try clear hfz14_3; try clear hfz14_4; try clear hfz14_5; try clear hfz40_0; try clear hfz40_1; try clear hfz40_2; try clear hfz40_3; try clear hfz40_4; try clear hfz40_5; try clear hfz42_0; try clear hfz42_1; try clear hfz42_2; try clear hfz42_3; try clear hfz42_4; try clear hfz42_5; try clear hfz48_0; try clear hfz48_1; try clear hfz48_2; try clear hfz48_3; try clear hfz48_4; try clear hfz48_5; try clear hfz8_0; try clear hfz8_1; try clear hfz8_2; try clear hfz8_3; try clear hfz8_4; try clear hfz8_5
        obtain ⟨kq, x57_37, rfl, HA, HJ37, HO_391003, HO_391005, HO_403003, HO_403005, HO_420003, HO_420005, BK390, BK402, BK419, HB⟩ := hcut
        have hl403003_37 := (Kd.R_reads' HO_403003.out).1
        rw [hl403003_37] at HO_403003
        (try simp only [hl403003_37])
        (try simp only [hl403003_37] at BK390)
        (try simp only [hl403003_37] at BK402)
        (try simp only [hl403003_37] at BK419)
        (try simp only [hl403003_37] at HO_391003)
        (try simp only [hl403003_37] at HO_391005)
        (try simp only [hl403003_37] at HO_403005)
        (try simp only [hl403003_37] at HO_420003)
        (try simp only [hl403003_37] at HO_420005)
        have hl403005_37 := (Kd.R_reads' HO_403005.out).1
        rw [hl403005_37] at HO_403005
        (try simp only [hl403005_37])
        (try simp only [hl403005_37] at BK390)
        (try simp only [hl403005_37] at BK402)
        (try simp only [hl403005_37] at BK419)
        (try simp only [hl403005_37] at HO_391003)
        (try simp only [hl403005_37] at HO_391005)
        (try simp only [hl403005_37] at HO_403003)
        (try simp only [hl403005_37] at HO_420003)
        (try simp only [hl403005_37] at HO_420005)
        cases kq with
        | zero => exact absurd HA.out (by simp [laws_FnExactRecordOf.j1])
        | succ kj37 =>
         have H := HA.out
         clear HA
         simp only [laws_FnExactRecordOf.j1] at H
         by_cases c65 : x57_37 = true
         ·subst c65
          rw [if_pos rfl] at H
          obtain rfl := Option.some.inj H
          go_wp2
          all_goals go_ret
          all_goals exact ⟨by first | rfl | (simp [errW_none, errW_some] <;> rfl) | (simp [*, errW_none, errW_some] <;> rfl), zb⟩
         ·replace c65 := Bool.eq_false_iff.mpr c65
          subst c65
          rw [if_neg (show ¬ (false = true) by decide)] at H
          replace H := tbe H
          obtain ⟨t421, A66, H⟩ := H
          by_cases c67 : t421 < 0
          ·rw [if_pos c67] at H
           have c67b0 : decide (t421 < 0) = true := decide_eq_true c67
           clear c67
           obtain rfl := Option.some.inj H
           have hnb68 := NB402_390.out
           have hnc68 := NB390_402.out
           have hnb69 := NB402_419.out
           have hnc69 := NB419_402.out
           obtain ⟨hcz70_0, hcz70_1, hcz70_2, hcz70_3, hcz70_4, hcz70_5, hfz70_0, hfz70_1, hfz70_2, hfz70_3, hfz70_4, hfz70_5⟩ := cells6 BK402.out
           go_wp2_with (first | ((with_reducible refine gate_callee (f := 21) rfl ?_); refine goesL_ (some 60) rfl rfl Tryd.func21 (by kernel_rfl) rfl #[.agg #[.int .i64 t391, .int .i64 t392, .bool t393, .slice Ao15 t405.length co15, .bool t397, .slice Ao16 t406.length co16], .int .i64 1] rfl tq ?_; (with_reducible refine (laws_heldRecord.calls kj37 t391 t392 t393 _ _ t405 t397 _ _ t406 1 t421 _ ?side1 ?side2 ?side3 ?side4 A66.out).mono ?_); (case side1 => repeat (first | exact (Kd.R_reads' HO_403003.out).2.2 | (with_reducible refine Kd.C_alloc ?_ _) | (with_reducible refine Kd.C_drewN ?_ _) | (with_reducible refine Kd.C_drew ?_))); (case side2 => exact (Kd.R_reads' HO_403003.out).2.1); (case side3 => repeat (first | exact (Kd.R_reads' HO_403005.out).2.2 | (with_reducible refine Kd.C_alloc ?_ _) | (with_reducible refine Kd.C_drewN ?_ _) | (with_reducible refine Kd.C_drew ?_))); (case side4 => exact (Kd.R_reads' HO_403005.out).2.1); rintro e w71 ⟨rfl, hb⟩; refine ⟨_, rfl, ?_⟩; replace HO_391003 := tRb HO_391003 hb; replace HO_391005 := tRb HO_391005 hb; replace HO_403003 := tRb HO_403003 hb; replace HO_403005 := tRb HO_403005 hb; replace HO_420003 := tRb HO_420003 hb; replace HO_420005 := tRb HO_420005 hb; replace BK390 := tBb BK390 hb; replace BK402 := tBb BK402 hb; replace BK419 := tBb BK419 hb; replace HB := tBs HB hb; (try clear hb); (try clear hb2); (try clear hk); (try clear hi)))
           all_goals go_ret
           all_goals exact ⟨by first | rfl | (simp [errW_none, errW_some] <;> rfl) | (simp [*, errW_none, errW_some] <;> rfl), zb⟩
          ·rw [if_neg c67] at H
           have c67b0 : decide (t421 < 0) = false := decide_eq_false c67
           clear c67
           by_cases c72 : t421 = t404
           ·rw [if_pos c72] at H
            have c72b0 : (t421 == t404) = true := beq_iff_eq.mpr c72
            have c72b1 : (t421 != t404) = false := bne_eq_false_iff_eq.mpr c72
            clear c72
            obtain rfl := Option.some.inj H
            have hnb73 := NB402_390.out
            have hnc73 := NB390_402.out
            have hnb74 := NB402_419.out
            have hnc74 := NB419_402.out
            obtain ⟨hcz75_0, hcz75_1, hcz75_2, hcz75_3, hcz75_4, hcz75_5, hfz75_0, hfz75_1, hfz75_2, hfz75_3, hfz75_4, hfz75_5⟩ := cells6 BK402.out
            go_wp2_with (first | ((with_reducible refine gate_callee (f := 21) rfl ?_); refine goesL_ (some 60) rfl rfl Tryd.func21 (by kernel_rfl) rfl #[.agg #[.int .i64 t391, .int .i64 t392, .bool t393, .slice Ao15 t405.length co15, .bool t397, .slice Ao16 t406.length co16], .int .i64 1] rfl tq ?_; (with_reducible refine (laws_heldRecord.calls kj37 t391 t392 t393 _ _ t405 t397 _ _ t406 1 t421 _ ?side1 ?side2 ?side3 ?side4 A66.out).mono ?_); (case side1 => repeat (first | exact (Kd.R_reads' HO_403003.out).2.2 | (with_reducible refine Kd.C_alloc ?_ _) | (with_reducible refine Kd.C_drewN ?_ _) | (with_reducible refine Kd.C_drew ?_))); (case side2 => exact (Kd.R_reads' HO_403003.out).2.1); (case side3 => repeat (first | exact (Kd.R_reads' HO_403005.out).2.2 | (with_reducible refine Kd.C_alloc ?_ _) | (with_reducible refine Kd.C_drewN ?_ _) | (with_reducible refine Kd.C_drew ?_))); (case side4 => exact (Kd.R_reads' HO_403005.out).2.1); rintro e w76 ⟨rfl, hb⟩; refine ⟨_, rfl, ?_⟩; replace HO_391003 := tRb HO_391003 hb; replace HO_391005 := tRb HO_391005 hb; replace HO_403003 := tRb HO_403003 hb; replace HO_403005 := tRb HO_403005 hb; replace HO_420003 := tRb HO_420003 hb; replace HO_420005 := tRb HO_420005 hb; replace BK390 := tBb BK390 hb; replace BK402 := tBb BK402 hb; replace BK419 := tBb BK419 hb; replace HB := tBs HB hb; (try clear hb); (try clear hb2); (try clear hk); (try clear hi)))
            all_goals go_ret
            all_goals exact ⟨by first | rfl | (simp [errW_none, errW_some] <;> rfl) | (simp [*, errW_none, errW_some] <;> rfl), zb⟩
           ·rw [if_neg c72] at H
            have c72b0 : (t421 == t404) = false := beq_eq_false_iff_ne.mpr c72
            have c72b1 : (t421 != t404) = true := bne_iff_ne.mpr c72
            obtain rfl := Option.some.inj H
            have hnb77 := NB402_390.out
            have hnc77 := NB390_402.out
            have hnb78 := NB402_419.out
            have hnc78 := NB419_402.out
            obtain ⟨hcz79_0, hcz79_1, hcz79_2, hcz79_3, hcz79_4, hcz79_5, hfz79_0, hfz79_1, hfz79_2, hfz79_3, hfz79_4, hfz79_5⟩ := cells6 BK402.out
            go_wp2_with (first | ((with_reducible refine gate_callee (f := 21) rfl ?_); refine goesL_ (some 60) rfl rfl Tryd.func21 (by kernel_rfl) rfl #[.agg #[.int .i64 t391, .int .i64 t392, .bool t393, .slice Ao15 t405.length co15, .bool t397, .slice Ao16 t406.length co16], .int .i64 1] rfl tq ?_; (with_reducible refine (laws_heldRecord.calls kj37 t391 t392 t393 _ _ t405 t397 _ _ t406 1 t421 _ ?side1 ?side2 ?side3 ?side4 A66.out).mono ?_); (case side1 => repeat (first | exact (Kd.R_reads' HO_403003.out).2.2 | (with_reducible refine Kd.C_alloc ?_ _) | (with_reducible refine Kd.C_drewN ?_ _) | (with_reducible refine Kd.C_drew ?_))); (case side2 => exact (Kd.R_reads' HO_403003.out).2.1); (case side3 => repeat (first | exact (Kd.R_reads' HO_403005.out).2.2 | (with_reducible refine Kd.C_alloc ?_ _) | (with_reducible refine Kd.C_drewN ?_ _) | (with_reducible refine Kd.C_drew ?_))); (case side4 => exact (Kd.R_reads' HO_403005.out).2.1); rintro e w80 ⟨rfl, hb⟩; refine ⟨_, rfl, ?_⟩; replace HO_391003 := tRb HO_391003 hb; replace HO_391005 := tRb HO_391005 hb; replace HO_403003 := tRb HO_403003 hb; replace HO_403005 := tRb HO_403005 hb; replace HO_420003 := tRb HO_420003 hb; replace HO_420005 := tRb HO_420005 hb; replace BK390 := tBb BK390 hb; replace BK402 := tBb BK402 hb; replace BK419 := tBb BK419 hb; replace HB := tBs HB hb; (try clear hb); (try clear hb2); (try clear hk); (try clear hi)))
            all_goals go_ret
            all_goals exact ⟨by first | rfl | (simp [errW_none, errW_some] <;> rfl) | (simp [*, errW_none, errW_some] <;> rfl), zb⟩
      ·rw [if_neg c36] at H
       have c36b0 : (t407 == t404) = false := beq_eq_false_iff_ne.mpr c36
       have c36b1 : (t407 != t404) = true := bne_iff_ne.mpr c36
       obtain rfl := Option.some.inj H
       have hnb81 := NB402_390.out
       have hnc81 := NB390_402.out
       obtain ⟨hcz82_0, hcz82_1, hcz82_2, hcz82_3, hcz82_4, hcz82_5, hfz82_0, hfz82_1, hfz82_2, hfz82_3, hfz82_4, hfz82_5⟩ := cells6 BK402.out
       go_wp2_with (first | ((with_reducible refine gate_callee (f := 20) rfl ?_); refine goesL_ (some 35) rfl rfl Tryd.func20 (by kernel_rfl) rfl #[.agg #[.int .i64 t391, .int .i64 t392, .bool t393, .slice Ao15 t394.length co15, .bool t397, .slice Ao16 t398.length co16], .int .i64 1] rfl tq ?_; (with_reducible refine (laws_markRecord.calls kj4 t391 t392 t393 (fun k_ => some k_ = (.slice Ao15 t394.length co15 : Value).ownBlock) (.slice Ao15 t394.length co15) t394 t397 (fun k_ => some k_ = (.slice Ao16 t398.length co16 : Value).ownBlock) (.slice Ao16 t398.length co16) t398 1 t404 t405 t406 w _ ?side1 ?side2 ?side3 ?side4 ?side5 A28.out).mono ?_); (case side1 => exact zb); (case side2 => exact Kd.R_tight rfl HO_403003.out); (case side3 => exact fun k_ e_ => (HO_403003.out.1 k_ e_.symm).2.2); (case side4 => exact Kd.R_tight rfl HO_403005.out); (case side5 => exact fun k_ e_ => (HO_403005.out.1 k_ e_.symm).2.2); rintro e w83 ⟨rfl, hy0, hy1, hb, hkp⟩; refine ⟨_, rfl, ?_⟩; replace HO_391003 := Aside0.mk (Kd.R_mono (ok' := fun k_ => some k_ ≠ (.slice Ao10 t386.length co10 : Value).ownBlock ∧ some k_ ≠ (.slice Ao15 t394.length co15 : Value).ownBlock ∧ some k_ ≠ (.slice Ao16 t398.length co16 : Value).ownBlock) (Kd.R_keptB (HO_391003.out) hkp (fun k_ hk_ hs_ => Or.elim hs_ (fun e_ => (hk_.2.1) e_) (fun e_ => (hk_.2.2) e_))) (fun k_ hk_ => ⟨hk_.1.1, hk_.1.2.1, hk_.1.2.2⟩)); replace HO_391005 := Aside0.mk (Kd.R_mono (ok' := fun k_ => some k_ ≠ (.slice Ao9 t382.length co9 : Value).ownBlock ∧ some k_ ≠ (.slice Ao15 t394.length co15 : Value).ownBlock ∧ some k_ ≠ (.slice Ao16 t398.length co16 : Value).ownBlock) (Kd.R_keptB (HO_391005.out) hkp (fun k_ hk_ hs_ => Or.elim hs_ (fun e_ => (hk_.2.1) e_) (fun e_ => (hk_.2.2) e_))) (fun k_ hk_ => ⟨hk_.1.1, hk_.1.2.1, hk_.1.2.2⟩)); replace BK390 := Aside0.mk (blk_kept (tH BK390.out) hkp (fun hs_ => Or.elim hs_ (fun e_ => (fun e_ => (Kd.R_ne HO_403003.out BK390.out (by decide)) e_) e_) (fun e_ => (fun e_ => (Kd.R_ne HO_403005.out BK390.out (by decide)) e_) e_))); replace BK402 := Aside0.mk (blk_kept (tH BK402.out) hkp (fun hs_ => Or.elim hs_ (fun e_ => (fun e_ => (Kd.R_ne HO_403003.out BK402.out (by decide)) e_) e_) (fun e_ => (fun e_ => (Kd.R_ne HO_403005.out BK402.out (by decide)) e_) e_))); replace HO_403003 := Aside0.mk (Kd.R_reok rfl hy0 (fun k_ e_ => HO_403003.out.1 k_ e_)); replace HO_403005 := Aside0.mk (Kd.R_reok rfl hy1 (fun k_ e_ => HO_403005.out.1 k_ e_)); replace HB := Aside0.mk (hb); (try clear hb); (try clear hkp); (try clear hy0); (try clear hy1); obtain ⟨hcz84_0, hcz84_1, hcz84_2, hcz84_3, hcz84_4, hcz84_5, hfz84_0, hfz84_1, hfz84_2, hfz84_3, hfz84_4, hfz84_5⟩ := cells6 BK402.out) | ((with_reducible refine gate_callee (f := 21) rfl ?_); refine goesL_ (some 38) rfl rfl Tryd.func21 (by kernel_rfl) rfl #[.agg #[.int .i64 t391, .int .i64 t392, .bool t393, .slice Ao15 t405.length co15, .bool t397, .slice Ao16 t406.length co16], .int .i64 1] rfl (by (try simp only [List.map_toArray, List.map_cons, List.map_nil]); first | done | (rw [show t405.length = t394.length from (Kd.R_reads' HO_403003.out).1.symm, show t406.length = t398.length from (Kd.R_reads' HO_403005.out).1.symm] <;> rfl) | rfl | (simp only [List.length_drop, List.length_take]; rfl)) ?_; (with_reducible refine (laws_heldRecord.calls kj4 t391 t392 t393 _ _ t405 t397 _ _ t406 1 t407 _ ?side1 ?side2 ?side3 ?side4 A29.out).mono ?_); (case side1 => repeat (first | exact (Kd.R_reads' HO_403003.out).2.2 | (with_reducible refine Kd.C_alloc ?_ _) | (with_reducible refine Kd.C_drewN ?_ _) | (with_reducible refine Kd.C_drew ?_))); (case side2 => rw [show t405.length = t394.length from (Kd.R_reads' HO_403003.out).1.symm]; exact (Kd.R_reads' HO_403003.out).2.1); (case side3 => repeat (first | exact (Kd.R_reads' HO_403005.out).2.2 | (with_reducible refine Kd.C_alloc ?_ _) | (with_reducible refine Kd.C_drewN ?_ _) | (with_reducible refine Kd.C_drew ?_))); (case side4 => rw [show t406.length = t398.length from (Kd.R_reads' HO_403005.out).1.symm]; exact (Kd.R_reads' HO_403005.out).2.1); rintro e w85 ⟨rfl, hb⟩; refine ⟨_, rfl, ?_⟩; replace HO_391003 := tRb HO_391003 hb; replace HO_391005 := tRb HO_391005 hb; replace HO_403003 := tRb HO_403003 hb; replace HO_403005 := tRb HO_403005 hb; replace BK390 := tBb BK390 hb; replace BK402 := tBb BK402 hb; replace HB := tBs HB hb; (try clear hb); (try clear hb2); (try clear hk); (try clear hi)))
       all_goals go_ret
       all_goals exact ⟨by first | rfl | (simp [errW_none, errW_some] <;> rfl) | (simp [*, errW_none, errW_some] <;> rfl), zb⟩

end Go.Proofs.YteoicjlhkaljbaaDoor.G

namespace Go.Proofs.YteoicjlhkaljbaaDoor.Rd
open Go.RowKit Go.Proofs.YteoicjlhkaljbaaDoorW.PrintWords
set_option linter.unusedVariables false
section
variable {H : Type} {enc : TypeId × Value → H} {P : Program} {w : World} {base : Nat} {spare : Nat → Bool} {held : Bool}
/-- What a reading of type t gives: a value of the kind, and what is known of it. -/
def Opens (enc : TypeId × Value → H) (P : Program) (w : World) (base : Nat) (spare : Nat → Bool) (held : Bool) {α : Type} (t : TypeId) (d : Kd α) (ok : α → Prop) : Prop :=
  P.cellsOf t = d.sz ∧ ∀ fuel cs x, DataW.trod enc P w base spare held fuel t cs = some x → ∃ v, d.K w v cs ∧ ok v
theorem Opens.imp_ {α : Type} {t : TypeId} {d : Kd α} {ok ok' : α → Prop} (h : Opens enc P w base spare held t d ok) (hi : ∀ v, ok v → ok' v) : Opens enc P w base spare held t d ok' :=
  ⟨h.1, fun fuel cs x hx => by
    obtain ⟨v, hk, ho⟩ := h.2 fuel cs x hx
    exact ⟨v, hk, hi v ho⟩⟩
end
end Go.Proofs.YteoicjlhkaljbaaDoor.Rd

namespace Go.Proofs.YteoicjlhkaljbaaDoor.OFnExactRecordOf
open Go.RowKit Go.Proofs.YteoicjlhkaljbaaDoorW.PrintWords Go.Proofs.YteoicjlhkaljbaaDoor.G
set_option linter.unusedVariables false
def Pure : Prop := ∀ (a0 : ByteArray), a0.size ≤ 140737488351232 → ∃ k, laws_FnExactRecordOf.f k a0 = some true
end Go.Proofs.YteoicjlhkaljbaaDoor.OFnExactRecordOf

namespace Go.Proofs.YteoicjlhkaljbaaDoor.Pu
open Go.RowKit Go.Proofs.YteoicjlhkaljbaaDoorW.PrintWords Go.Proofs.YteoicjlhkaljbaaDoorW.PrintLast Go.Proofs.YteoicjlhkaljbaaDoor.G
set_option linter.unusedVariables false
set_option linter.unusedSimpArgs false
/-- A loop that asks each element, and stops at the first that says no. -/
theorem ev_all {α : Type} (l : List α) (hl : l.length ≤ 9223372036854775807) (L : Nat → Int → Option Bool) (F : Nat → Nat → Option Bool) (p : α → Bool) (last : Bool)
    (hend : ∀ k, L (k + 1) (l.length : Int) = some last)
    (hstep : ∀ k (i : Nat), i < l.length → L (k + 1) (i : Int) = (F k i).bind fun t => if t = true then L k (wrap64 ((i : Int) + 1)) else some false)
    (hF : ∀ i (h : i < l.length), Ev (fun k => F k i) (p l[i])) : ∀ d i, l.length - i = d → i ≤ l.length → Ev (fun k => L k (i : Int)) ((l.drop i).all p && last) := by
  intro d
  induction d with
  | zero =>
    intro i hi hle
    obtain rfl : i = l.length := by omega
    refine Ev.step (fun k => hend k) ?_
    rw [List.drop_length]
    exact Ev.now _
  | succ d ih =>
    intro i hi hle
    have hlt : i < l.length := by omega
    refine Ev.step (fun k => hstep k i hlt) ?_
    refine Ev.bind (hF i hlt) ?_
    rw [List.drop_eq_getElem_cons hlt, List.all_cons]
    cases hp : p l[i]
    · exact Ev.now _
    · simp only [if_true, Bool.true_and, w64 (a := (i : Int) + 1) (by omega) (by omega)]
      exact ih (i + 1) (by omega) (by omega)
theorem rdi_nat (l : List Int) (i : Nat) (h : i < l.length) : rd l (i : Int) = l[i] := by
  unfold rd
  simp [h]
theorem within_ev (a b c : Int) : impl_within.f a b c = some (decide (b ≤ a) && decide (a ≤ c)) := by
  unfold impl_within.f
  by_cases h : a ≥ b
  · rw [if_pos h, show decide (b ≤ a) = true from decide_eq_true h]; rfl
  · rw [if_neg h, show decide (b ≤ a) = false from decide_eq_false h]; rfl
theorem in_ev (a b c : Int) : spec_l6In.f a b c = some (decide (b ≤ a) && decide (a ≤ c)) := by
  unfold spec_l6In.f
  by_cases h : a ≥ b
  · rw [if_pos h, show decide (b ≤ a) = true from decide_eq_true h]; rfl
  · rw [if_neg h, show decide (b ≤ a) = false from decide_eq_false h]; rfl
def isB (x : Int) : Bool := decide (0 ≤ x) && decide (x ≤ 255)
theorem isByte_ev (x : Int) : impl_isByte.f x = some (isB x) := by
  unfold impl_isByte.f isB
  by_cases h : x ≥ 0
  · rw [if_pos h, show decide (0 ≤ x) = true from decide_eq_true h]; rfl
  · rw [if_neg h, show decide (0 ≤ x) = false from decide_eq_false h]; rfl
theorem isB_iff (x : Int) : isB x = true ↔ 0 ≤ x ∧ x ≤ 255 := by
  unfold isB
  simp
theorem allBytes_ev (l : List Int) (hl : l.length ≤ 9223372036854775807) : Ev (fun k => impl_allBytes.f k l) (l.all isB) := by
  unfold impl_allBytes.f
  have := ev_all l hl (fun k i => impl_allBytes.l0 k l (l.length : Int) i) (fun k i => some (isB (rd l (i : Int)))) isB true
    (fun k => by simp only [impl_allBytes.l0]; rw [if_neg (by omega)])
    (fun k i h => by simp only [impl_allBytes.l0]; rw [if_pos (by omega), if_pos (by omega), if_pos (by omega), isByte_ev])
    (fun i h => by rw [rdi_nat l i h]; exact Ev.now _) l.length 0 (by omega) (by omega)
  simpa using this
theorem l1Ok_ev (l : List Int) (hl : l.length ≤ 9223372036854775807) : Ev (fun k => spec_l1Ok.f k l) (l.all isB) := by
  unfold spec_l1Ok.f
  have := ev_all l hl (fun k i => spec_l1Ok.l0 k l i) (fun k i => some (isB (rd l (i : Int)))) isB true
    (fun k => by simp only [spec_l1Ok.l0]; rw [if_neg (by omega)])
    (fun k i h => by simp only [spec_l1Ok.l0]; rw [if_pos (by omega), if_pos (by omega), in_ev]; rfl)
    (fun i h => by rw [rdi_nat l i h]; exact Ev.now _) l.length 0 (by omega) (by omega)
  simpa using this
def partOk (has : Bool) (l : List Int) : Bool := if has = true then decide (l.length ≤ 12) && l.all isB else decide (l.length = 0)
theorem partValid_ev (has : Bool) (l : List Int) (hl : l.length ≤ 9223372036854775807) : Ev (fun k => impl_partValid.f k has l) (partOk has l) := by
  unfold impl_partValid.f partOk
  cases has
  · simp only [Bool.false_eq_true, if_false]
    rw [show ((l.length : Int) == 0) = decide (l.length = 0) from by rw [Bool.eq_iff_iff]; simp]
    exact Ev.now _
  · simp only [if_true]
    by_cases h : (l.length : Int) ≤ 12
    · simp only [if_pos h]
      rw [show decide (l.length ≤ 12) = true from decide_eq_true (by omega), Bool.true_and]
      exact Ev.bind (allBytes_ev l hl) (Ev.now _)
    · simp only [if_neg h]
      rw [show decide (l.length ≤ 12) = false from decide_eq_false (by omega)]
      exact Ev.now _
theorem l3Part_ev (has : Bool) (l : List Int) (hl : l.length ≤ 9223372036854775807) : Ev (fun k => spec_l3Part.f k has l) (partOk has l) := by
  unfold spec_l3Part.f partOk
  cases has
  · simp only [Bool.false_eq_true, if_false]
    by_cases h : (l.length : Int) = 0
    · simp only [if_pos h]
      obtain rfl : l = [] := List.length_eq_zero_iff.1 (by omega)
      refine Ev.bind (l1Ok_ev [] (by simp)) ?_
      exact Ev.now _
    · simp only [if_neg h]
      rw [show decide (l.length = 0) = false from decide_eq_false (by omega)]
      exact Ev.now _
  · simp only [if_true]
    refine Ev.bind (l1Ok_ev l hl) ?_
    rw [show decide ((l.length : Int) ≤ 12) = decide (l.length ≤ 12) from decide_eq_decide.2 (by omega)]
    cases l.all isB
    · simp only [Bool.false_eq_true, if_false, Bool.and_false]
      exact Ev.now _
    · simp only [if_true, Bool.and_true]
      exact Ev.now _
def rng (x : Int) : Bool := decide (0 ≤ x) && decide (x ≤ 99999)
def recOk (r : S25) : Bool := (rng r.f0 && rng r.f1) && (partOk r.f2 r.f3 && partOk r.f4 r.f5)
/-- Lengths that can be told. -/
def Lens (r : S25) : Prop := r.f3.length ≤ 9223372036854775807 ∧ r.f5.length ≤ 9223372036854775807
theorem RecordValid_ev (r : S25) (hr : Lens r) : Ev (fun k => impl_RecordValid.f k r.f0 r.f1 r.f2 r.f3 r.f4 r.f5) (recOk r) := by
  unfold impl_RecordValid.f recOk impl_baseValid.f
  simp only [within_ev, Option.bind_some]
  change Ev (fun k => ((if rng r.f0 = true then some (rng r.f1) else some false)).bind _) _
  cases rng r.f0
  · simp only [Bool.false_eq_true, if_false, Option.bind_some, Bool.false_and]
    exact Ev.now _
  · cases rng r.f1
    · simp only [if_true, Option.bind_some, Bool.false_eq_true, if_false, Bool.true_and, Bool.false_and]
      exact Ev.now _
    · simp only [if_true, Option.bind_some, Bool.true_and]
      refine Ev.bind (partValid_ev _ _ hr.1) ?_
      cases partOk r.f2 r.f3
      · exact Ev.now _
      · simp only [if_true, Bool.true_and]
        exact Ev.bind (partValid_ev _ _ hr.2) (Ev.now _)
theorem sRecordValid_ev (r : S25) (hr : Lens r) : Ev (fun k => spec_RecordValid.f k r.f0 r.f1 r.f2 r.f3 r.f4 r.f5) (recOk r) := by
  unfold spec_RecordValid.f recOk
  simp only [in_ev, Option.bind_some]
  change Ev (fun k => if rng r.f0 = true then (if rng r.f1 = true then _ else some false) else some false) _
  cases rng r.f0
  · simp only [Bool.false_eq_true, if_false, Bool.false_and]
    exact Ev.now _
  · cases rng r.f1
    · simp only [if_true, Bool.false_eq_true, if_false, Bool.true_and, Bool.false_and]
      exact Ev.now _
    · simp only [if_true, Bool.true_and]
      refine Ev.bind (l3Part_ev _ _ hr.1) ?_
      cases partOk r.f2 r.f3
      · exact Ev.now _
      · simp only [if_true, Bool.true_and]
        exact Ev.bind (l3Part_ev _ _ hr.2) (Ev.now _)
theorem recOk_len {r : S25} (h : recOk r = true) : r.f3.length ≤ 12 ∧ r.f5.length ≤ 12 := by
  unfold recOk partOk at h
  simp only [Bool.and_eq_true] at h
  obtain ⟨_, h1, h2⟩ := h
  constructor
  · cases h3 : r.f2 <;> rw [h3] at h1 <;> simp at h1
    · simp [h1]
    · omega
  · cases h3 : r.f4 <;> rw [h3] at h2 <;> simp at h2
    · simp [h2]
    · omega
end Go.Proofs.YteoicjlhkaljbaaDoor.Pu

namespace Go.Proofs.YteoicjlhkaljbaaDoor.Pu
open Go.RowKit Go.Proofs.YteoicjlhkaljbaaDoorW.PrintWords Go.Proofs.YteoicjlhkaljbaaDoorW.PrintLast Go.Proofs.YteoicjlhkaljbaaDoor.G
set_option linter.unusedVariables false
set_option linter.unusedSimpArgs false
theorem str_one (x : Int) (h0 : 0 ≤ x) (h1 : x ≤ 255) : strOfNums [x] = ByteArray.mk [UInt8.ofNat x.toNat].toArray := by
  unfold strOfNums
  simp
theorem dec_ev : ∀ (m n : Nat), n < 10 ^ (m + 1) → n ≤ 1000000000000 → Ev (fun k => spec_l6Dec.f k (n : Int)) (ByteArray.mk (dec n).toArray) := by
  intro m
  induction m with
  | zero =>
    intro n h hn
    refine Ev.step (fun k => by rw [spec_l6Dec.f]) ?_
    have h10 : n < 10 := by simpa using h
    simp only [if_neg (show ¬ (n : Int) < -9223372036854775807 by omega), if_neg (show ¬ (n : Int) < 0 by omega), if_pos (show (n : Int) < 10 by omega), w64 (a := 48 + (n : Int)) (by omega) (by omega)]
    rw [show (48 + (n : Int)) % 256 = 48 + n by omega, str_one _ (by omega) (by omega)]
    unfold dec
    rw [dif_pos h10, show (48 + (n : Int)).toNat = 48 + n by omega]
    exact Ev.now _
  | succ m ih =>
    intro n h hn
    refine Ev.step (fun k => by rw [spec_l6Dec.f]) ?_
    by_cases h10 : n < 10
    · simp only [if_neg (show ¬ (n : Int) < -9223372036854775807 by omega), if_neg (show ¬ (n : Int) < 0 by omega), if_pos (show (n : Int) < 10 by omega), w64 (a := 48 + (n : Int)) (by omega) (by omega)]
      rw [show (48 + (n : Int)) % 256 = 48 + n by omega, str_one _ (by omega) (by omega)]
      unfold dec
      rw [dif_pos h10, show (48 + (n : Int)).toNat = 48 + n by omega]
      exact Ev.now _
    · have ht : Int.tdiv (n : Int) 10 = ((n / 10 : Nat) : Int) := by
        rw [Int.tdiv_eq_ediv_of_nonneg (by omega)]; omega
      have hm : Int.tmod (n : Int) 10 = ((n % 10 : Nat) : Int) := by
        rw [Int.tmod_eq_emod_of_nonneg (by omega)]; omega
      simp only [if_neg (show ¬ (n : Int) < -9223372036854775807 by omega), if_neg (show ¬ (n : Int) < 0 by omega), if_neg (show ¬ (n : Int) < 10 by omega), ht, hm, w64 (a := ((n / 10 : Nat) : Int)) (by omega) (by omega), w64 (a := 48 + ((n % 10 : Nat) : Int)) (by omega) (by omega)]
      have h1 : n / 10 < 10 ^ (m + 1) := by rw [Nat.pow_succ] at h; omega
      refine Ev.bind (ih (n / 10) h1 (by omega)) ?_
      simp only [bindS]
      rw [show (48 + ((n % 10 : Nat) : Int)) % 256 = 48 + ((n % 10 : Nat) : Int) by omega, str_one _ (by omega) (by omega), show (48 + ((n % 10 : Nat) : Int)).toNat = 48 + n % 10 by omega]
      have hl := dec_len (n / 10) 12 (by omega)
      have hs : (ByteArray.mk (dec (n / 10)).toArray).size + (ByteArray.mk [UInt8.ofNat (48 + n % 10)].toArray).size ≤ 9223372036854775807 := by
        rw [size_mk, size_mk]; simp only [List.length_singleton]; omega
      simp only [if_pos hs, app_mk]
      rw [show dec n = dec (n / 10) ++ [UInt8.ofNat (48 + n % 10)] by rw [dec, dif_neg h10]]
      exact Ev.now _
theorem hex_loop (l : List Int) (hl : l.length ≤ 1000000) (ho : l.all isB = true) : ∀ d i, l.length - i = d → i ≤ l.length →
    Ev (fun k => spec_BytesText.l0 k l digs (ByteArray.mk (hexOf (l.take i)).toArray) (i : Int)) (ByteArray.mk (hexOf l).toArray) := by
  intro d
  induction d with
  | zero =>
    intro i hi hle
    refine Ev.step (fun k => by rw [spec_BytesText.l0]) ?_
    simp only [if_neg (show ¬ ((i : Int) < (l.length : Int)) by omega)]
    rw [List.take_of_length_le (by omega)]
    exact Ev.now _
  | succ d ih =>
    intro i hi hle
    have hlt : i < l.length := by omega
    have hb := (isB_iff _).1 (List.all_eq_true.1 ho _ (List.getElem_mem hlt))
    obtain ⟨n, hn⟩ := Int.eq_ofNat_of_zero_le hb.1
    have hn2 : n ≤ 255 := by omega
    refine Ev.step (fun k => by rw [spec_BytesText.l0]) ?_
    simp only [if_pos (show (i : Int) < (l.length : Int) by omega)]
    refine Ev.bind (l1Ok_ev l (by omega)) ?_
    have ht : Int.tdiv (n : Int) 16 = ((n / 16 : Nat) : Int) := by
      rw [Int.tdiv_eq_ediv_of_nonneg (by omega)]; omega
    have hm : Int.tmod (n : Int) 16 = ((n % 16 : Nat) : Int) := by
      rw [Int.tmod_eq_emod_of_nonneg (by omega)]; omega
    have d1 := digs_at (n / 16) (by omega)
    have d2 := digs_at (n % 16) (by omega)
    have hsz : digs.size = 16 := rfl
    simp only [ho, if_true, if_pos (show (0 : Int) ≤ (i : Int) by omega), rdi_nat l i hlt, hn, ht, hm, w64 (a := ((n / 16 : Nat) : Int)) (by omega) (by omega), w64 (a := ((n / 16 : Nat) : Int) + 1) (by omega) (by omega), w64 (a := ((n % 16 : Nat) : Int) + 1) (by omega) (by omega), w64 (a := (i : Int) + 1) (by omega) (by omega),
      if_pos (show (0 : Int) ≤ ((n / 16 : Nat) : Int) by omega), if_pos (show ((n / 16 : Nat) : Int) ≤ ((n / 16 : Nat) : Int) + 1 by omega), if_pos (show ((n / 16 : Nat) : Int) + 1 ≤ (digs.size : Int) by rw [hsz]; omega),
      if_pos (show (0 : Int) ≤ ((n % 16 : Nat) : Int) by omega), if_pos (show ((n % 16 : Nat) : Int) ≤ ((n % 16 : Nat) : Int) + 1 by omega), if_pos (show ((n % 16 : Nat) : Int) + 1 ≤ (digs.size : Int) by rw [hsz]; omega),
      Int.toNat_natCast, show (((n / 16 : Nat) : Int) + 1).toNat = n / 16 + 1 by omega, show (((n % 16 : Nat) : Int) + 1).toNat = n % 16 + 1 by omega, d1, d2]
    have hll : (hexOf (l.take i)).length ≤ 2000000 := by rw [hexOf_len, List.length_take]; omega
    have s1 : (ByteArray.mk (hexOf (l.take i)).toArray).size + (ByteArray.mk [hx (n / 16)].toArray).size ≤ 9223372036854775807 := by
      rw [size_mk, size_mk]; simp only [List.length_singleton]; omega
    have s2 : (ByteArray.mk (hexOf (l.take i)).toArray ++ ByteArray.mk [hx (n / 16)].toArray).size + (ByteArray.mk [hx (n % 16)].toArray).size ≤ 9223372036854775807 := by
      rw [app_mk, size_mk, size_mk]; simp only [List.length_singleton, List.length_append]; omega
    simp only [if_pos s1, if_pos s2]
    simp only [app_mk]
    have := ih (i + 1) (by omega) (by omega)
    rw [List.take_succ_eq_append_getElem hlt, hexOf_snoc, hn, Int.toNat_natCast] at this
    simp only [List.append_assoc, List.cons_append, List.nil_append] at this ⊢
    exact this
theorem hex_ev (l : List Int) (hl : l.length ≤ 1000000) (ho : l.all isB = true) : Ev (fun k => spec_BytesText.f k l) (ByteArray.mk (hexOf l).toArray) := by
  unfold spec_BytesText.f
  have := hex_loop l hl ho l.length 0 (by omega) (by omega)
  exact this
def partT (has : Bool) (l : List Int) : List UInt8 := if has = true then 120 :: hexOf l else [45]
theorem part_ev (has : Bool) (l : List Int) (hl : l.length ≤ 1000000) (ho : has = true → l.all isB = true) : Ev (fun k => spec_l41Part.f k has l) (ByteArray.mk (partT has l).toArray) := by
  unfold spec_l41Part.f partT
  cases has
  · exact Ev.now _
  · simp only [if_true]
    refine Ev.bind (hex_ev l hl (ho rfl)) ?_
    have : 1 + (ByteArray.mk (hexOf l).toArray).size ≤ 9223372036854775807 := by rw [size_mk, hexOf_len]; omega
    simp only [if_pos this]
    rw [show (⟨#[120]⟩ : ByteArray) = ByteArray.mk [120].toArray from rfl, app_mk]
    exact Ev.now _
def textOf (r : S25) : List UInt8 := dec r.f0.toNat ++ 32 :: (dec r.f1.toNat ++ 32 :: (partT r.f2 r.f3 ++ 32 :: partT r.f4 r.f5))
theorem recOk_parts {r : S25} (h : recOk r = true) : (0 ≤ r.f0 ∧ r.f0 ≤ 99999) ∧ (0 ≤ r.f1 ∧ r.f1 ≤ 99999) ∧ (r.f2 = true → r.f3.all isB = true) ∧ (r.f4 = true → r.f5.all isB = true) ∧ (r.f2 = false → r.f3 = []) ∧ (r.f4 = false → r.f5 = []) := by
  unfold recOk partOk rng at h
  simp only [Bool.and_eq_true, decide_eq_true_eq] at h
  obtain ⟨⟨h0, h1⟩, h2, h3⟩ := h
  refine ⟨h0, h1, fun e => ?_, fun e => ?_, fun e => ?_, fun e => ?_⟩
  · rw [e] at h2; simp at h2; exact List.all_eq_true.2 h2.2
  · rw [e] at h3; simp at h3; exact List.all_eq_true.2 h3.2
  · rw [e] at h2; simpa using h2
  · rw [e] at h3; simpa using h3
theorem text_ev (r : S25) (h : recOk r = true) : Ev (fun k => spec_l41Text.f k r.f0 r.f1 r.f2 r.f3 r.f4 r.f5) (ByteArray.mk (textOf r).toArray) := by
  obtain ⟨h0, h1, h2, h3, _, _⟩ := recOk_parts h
  have hl := recOk_len h
  obtain ⟨a, ha⟩ := Int.eq_ofNat_of_zero_le h0.1
  obtain ⟨b, hb⟩ := Int.eq_ofNat_of_zero_le h1.1
  have la := dec_len a 4 (by omega)
  have lb := dec_len b 4 (by omega)
  have lp : (partT r.f2 r.f3).length ≤ 25 := by unfold partT; split; simp only [List.length_cons, hexOf_len]; omega; simp
  have lq : (partT r.f4 r.f5).length ≤ 25 := by unfold partT; split; simp only [List.length_cons, hexOf_len]; omega; simp
  unfold spec_l41Text.f
  rw [ha, hb]
  refine Ev.bind (dec_ev 4 a (by omega) (by omega)) ?_
  rw [show (⟨#[32]⟩ : ByteArray) = ByteArray.mk [32].toArray from rfl]
  simp only [if_pos (show (ByteArray.mk (dec a).toArray).size + 1 ≤ 9223372036854775807 by rw [size_mk]; omega)]
  refine Ev.bind (dec_ev 4 b (by omega) (by omega)) ?_
  simp only [app_mk]
  have e1 : (ByteArray.mk (dec a ++ [32]).toArray).size + (ByteArray.mk (dec b).toArray).size ≤ 9223372036854775807 := by rw [size_mk, size_mk]; simp only [List.length_append, List.length_singleton]; omega
  have e2 : (ByteArray.mk (dec a ++ [32] ++ dec b).toArray).size + 1 ≤ 9223372036854775807 := by rw [size_mk]; simp only [List.length_append, List.length_singleton]; omega
  simp only [if_pos e1, if_pos e2]
  refine Ev.bind (part_ev r.f2 r.f3 (by omega) h2) ?_
  simp only [app_mk]
  have e3 : (ByteArray.mk (dec a ++ [32] ++ dec b ++ [32]).toArray).size + (ByteArray.mk (partT r.f2 r.f3).toArray).size ≤ 9223372036854775807 := by rw [size_mk, size_mk]; simp only [List.length_append, List.length_singleton]; omega
  have e4 : (ByteArray.mk (dec a ++ [32] ++ dec b ++ [32] ++ partT r.f2 r.f3).toArray).size + 1 ≤ 9223372036854775807 := by rw [size_mk]; simp only [List.length_append, List.length_singleton]; omega
  simp only [if_pos e3, if_pos e4]
  refine Ev.bind (part_ev r.f4 r.f5 (by omega) h3) ?_
  simp only [app_mk]
  have e5 : (ByteArray.mk (dec a ++ [32] ++ dec b ++ [32] ++ partT r.f2 r.f3 ++ [32]).toArray).size + (ByteArray.mk (partT r.f4 r.f5).toArray).size ≤ 9223372036854775807 := by rw [size_mk, size_mk]; simp only [List.length_append, List.length_singleton]; omega
  simp only [if_pos e5]
  unfold textOf
  rw [ha, hb, Int.toNat_natCast, Int.toNat_natCast]
  have : dec a ++ [32] ++ dec b ++ [32] ++ partT r.f2 r.f3 ++ [32] ++ partT r.f4 r.f5 = dec a ++ 32 :: (dec b ++ 32 :: (partT r.f2 r.f3 ++ 32 :: partT r.f4 r.f5)) := by simp
  rw [this]
  exact Ev.now _
/-! one line, one record -/
theorem split_first {a b x y : List UInt8} {c : UInt8} (ha : c ∉ a) (hb : c ∉ b) (h : a ++ c :: x = b ++ c :: y) : a = b ∧ x = y := by
  induction a generalizing b with
  | nil =>
    cases b with
    | nil => simpa using h
    | cons d b =>
      simp only [List.nil_append, List.cons_append, List.cons.injEq] at h
      exact absurd (by simp [h.1]) hb
  | cons d a ih =>
    cases b with
    | nil =>
      simp only [List.nil_append, List.cons_append, List.cons.injEq] at h
      exact absurd (by simp [h.1]) ha
    | cons e b =>
      simp only [List.cons_append, List.cons.injEq] at h
      have := ih (fun m => ha (by simp [m])) (fun m => hb (by simp [m])) h.2
      exact ⟨by rw [h.1, this.1], this.2⟩
theorem dec_digit (n : Nat) : ∀ c ∈ dec n, 48 ≤ c.toNat ∧ c.toNat ≤ 57 := by
  induction n using Nat.strongRecOn with
  | ind n ih =>
    intro c hc
    unfold dec at hc
    split at hc
    · rename_i h
      simp only [List.mem_singleton] at hc
      subst hc
      simp only [UInt8.toNat_ofNat']
      omega
    · rename_i h
      rcases List.mem_append.1 hc with hc | hc
      · exact ih (n / 10) (by omega) c hc
      · simp only [List.mem_singleton] at hc
        subst hc
        simp only [UInt8.toNat_ofNat']
        omega
def val (l : List UInt8) : Nat := l.foldl (fun n c => 10 * n + (c.toNat - 48)) 0
theorem val_dec (n : Nat) : val (dec n) = n := by
  induction n using Nat.strongRecOn with
  | ind n ih =>
    unfold dec
    split
    · rename_i h
      simp only [val, List.foldl_cons, List.foldl_nil, UInt8.toNat_ofNat']
      omega
    · rename_i h
      have := ih (n / 10) (by omega)
      unfold val at this ⊢
      rw [List.foldl_append, this]
      simp only [List.foldl_cons, List.foldl_nil, UInt8.toNat_ofNat']
      omega
theorem dec_inj {a b : Nat} (h : dec a = dec b) : a = b := by rw [← val_dec a, ← val_dec b, h]
theorem dec_no (n : Nat) : (32 : UInt8) ∉ dec n := fun h => by
  have := dec_digit n 32 h
  simp at this
theorem hx_range (n : Nat) (h : n < 16) : 48 ≤ (hx n).toNat ∧ (hx n).toNat ≤ 102 := by
  unfold hx
  split <;> simp only [UInt8.toNat_ofNat'] <;> omega
theorem hx_inj {a b : Nat} (ha : a < 16) (hb : b < 16) (h : hx a = hx b) : a = b := by
  have h2 : (hx a).toNat = (hx b).toNat := by rw [h]
  unfold hx at h2
  split at h2 <;> split at h2 <;> simp only [UInt8.toNat_ofNat'] at h2 <;> omega
theorem part_no (has : Bool) (l : List Int) (ho : has = true → l.all isB = true) : (32 : UInt8) ∉ partT has l := by
  unfold partT
  cases has
  · simp
  · simp only [if_true, List.mem_cons, not_or]
    refine ⟨by decide, fun h => ?_⟩
    unfold hexOf at h
    obtain ⟨x, hx1, hx2⟩ := List.mem_flatMap.1 h
    have hb := (isB_iff _).1 (List.all_eq_true.1 (ho rfl) x hx1)
    simp only [List.mem_cons, List.not_mem_nil, or_false] at hx2
    rcases hx2 with h2 | h2
    · have := (hx_range (x.toNat / 16) (by omega)).1
      rw [← h2] at this
      simp at this
    · have := (hx_range (x.toNat % 16) (by omega)).1
      rw [← h2] at this
      simp at this
theorem hexOf_inj : ∀ {a b : List Int}, a.all isB = true → b.all isB = true → hexOf a = hexOf b → a = b
  | [], [], _, _, _ => rfl
  | [], y :: ys, _, _, h => by
    have := congrArg List.length h
    rw [hexOf_len, hexOf_len] at this
    simp at this
  | x :: xs, [], _, _, h => by
    have := congrArg List.length h
    rw [hexOf_len, hexOf_len] at this
    simp at this
  | x :: xs, y :: ys, ha, hb, h => by
    rw [List.all_cons, Bool.and_eq_true, isB_iff] at ha hb
    have h' : hx (x.toNat / 16) :: hx (x.toNat % 16) :: hexOf xs = hx (y.toNat / 16) :: hx (y.toNat % 16) :: hexOf ys := h
    simp only [List.cons.injEq] at h'
    obtain ⟨h1, h2, h3⟩ := h'
    have e1 := hx_inj (by omega) (by omega) h1
    have e2 := hx_inj (by omega) (by omega) h2
    have e3 := hexOf_inj ha.2 hb.2 h3
    rw [e3, show x = y by omega]
theorem partT_inj {h1 h2 : Bool} {a b : List Int} (ha : h1 = true → a.all isB = true) (hb : h2 = true → b.all isB = true) (na : h1 = false → a = []) (nb : h2 = false → b = []) (h : partT h1 a = partT h2 b) : h1 = h2 ∧ a = b := by
  unfold partT at h
  cases h1 <;> cases h2
  · exact ⟨rfl, by rw [na rfl, nb rfl]⟩
  · simp at h
  · simp at h
  · simp only [if_true, List.cons.injEq, true_and] at h
    exact ⟨rfl, hexOf_inj (ha rfl) (hb rfl) h⟩
theorem text_inj {a b : S25} (ha : recOk a = true) (hb : recOk b = true) (h : textOf a = textOf b) : a = b := by
  obtain ⟨a0, a1, a2, a3, a4, a5⟩ := recOk_parts ha
  obtain ⟨b0, b1, b2, b3, b4, b5⟩ := recOk_parts hb
  unfold textOf at h
  obtain ⟨e0, h⟩ := split_first (dec_no _) (dec_no _) h
  obtain ⟨e1, h⟩ := split_first (dec_no _) (dec_no _) h
  obtain ⟨e2, h⟩ := split_first (part_no _ _ a2) (part_no _ _ b2) h
  have k0 := dec_inj e0
  have k1 := dec_inj e1
  obtain ⟨k2, k3⟩ := partT_inj a2 b2 a4 b4 e2
  obtain ⟨k4, k5⟩ := partT_inj a3 b3 a5 b5 h
  cases a; cases b
  simp only at a0 a1 b0 b1 k0 k1 k2 k3 k4 k5
  subst k2 k3 k4 k5
  congr 1 <;> omega
end Go.Proofs.YteoicjlhkaljbaaDoor.Pu

namespace Go.Proofs.YteoicjlhkaljbaaDoor.Pu
open Go.RowKit Go.Proofs.YteoicjlhkaljbaaDoorW.PrintWords Go.Proofs.YteoicjlhkaljbaaDoorW.PrintLast Go.Proofs.YteoicjlhkaljbaaDoor.G
set_option linter.unusedVariables false
set_option linter.unusedSimpArgs false
def splitL : List UInt8 → List (List UInt8)
  | [] => [[]]
  | c :: l => if c = 32 then [] :: splitL l else (c :: (splitL l).headD []) :: (splitL l).tail
theorem splitL_ne (l : List UInt8) : splitL l ≠ [] := by
  cases l with
  | nil => simp [splitL]
  | cons c l => unfold splitL; split <;> simp
theorem splitL_none : ∀ {l : List UInt8}, (32 : UInt8) ∉ l → splitL l = [l]
  | [], _ => rfl
  | c :: l, h => by
    have hc : ¬ c = 32 := fun e => h (by simp [e])
    have ih := splitL_none (l := l) (fun m => h (by simp [m]))
    unfold splitL
    rw [if_neg hc, ih]
    rfl
theorem splitL_app : ∀ {a b : List UInt8}, (32 : UInt8) ∉ a → splitL (a ++ 32 :: b) = a :: splitL b
  | [], b, _ => by
    rw [List.nil_append]
    conv => lhs; unfold splitL
    rw [if_pos rfl]
  | c :: a, b, h => by
    have hc : ¬ c = 32 := fun e => h (by simp [e])
    have ih := splitL_app (a := a) (b := b) (fun m => h (by simp [m]))
    rw [List.cons_append]
    conv => lhs; unfold splitL
    rw [if_neg hc, ih]
    rfl
theorem splitL_join (l : List UInt8) : Lib.join (splitL l) [32] = l ∧ ∀ p ∈ splitL l, (32 : UInt8) ∉ p := by
  induction l with
  | nil => exact ⟨by simp [splitL, Lib.join_one], by simp [splitL]⟩
  | cons c l ih =>
    obtain ⟨h1, h2⟩ := ih
    have hne := splitL_ne l
    cases hs : splitL l with
    | nil => exact absurd hs hne
    | cons p ps =>
      rw [hs] at h1 h2
      unfold splitL
      by_cases hc : c = 32
      · rw [if_pos hc, hs]
        refine ⟨?_, fun q hq => ?_⟩
        · subst hc
          simp only [Lib.join, List.intercalate] at h1 ⊢
          simp only [List.intersperse_cons_cons, List.flatten_cons] at h1 ⊢
          simp [h1]
        · rcases List.mem_cons.1 hq with rfl | hq
          · simp
          · exact h2 q hq
      · rw [if_neg hc, hs]
        refine ⟨?_, fun q hq => ?_⟩
        · simp only [List.headD_cons, List.tail_cons]
          cases ps with
          | nil => rw [Lib.join_one] at h1 ⊢; rw [h1]
          | cons p2 ps =>
            simp only [Lib.join, List.intercalate] at h1 ⊢
            simp only [List.intersperse_cons_cons, List.flatten_cons] at h1 ⊢
            rw [List.cons_append, h1]
        · simp only [List.headD_cons, List.tail_cons] at hq
          rcases List.mem_cons.1 hq with rfl | hq
          · simp only [List.mem_cons, not_or]
            exact ⟨fun e => hc e.symm, h2 p (by simp)⟩
          · exact h2 q (List.mem_cons_of_mem _ hq)
/-- The library's cut. -/
theorem first_blank (l : List UInt8) : (Lib.index l [32] = -1 ∧ (32 : UInt8) ∉ l) ∨ ∃ a b, l = a ++ 32 :: b ∧ (32 : UInt8) ∉ a ∧ Lib.index l [32] = (a.length : Nat) := by
  induction l with
  | nil => exact .inl ⟨rfl, by simp⟩
  | cons c l ih =>
    by_cases hc : c = 32
    · subst hc
      exact .inr ⟨[], l, rfl, by simp, by simp [Lib.index]⟩
    · have hc2 : ¬ (32 : UInt8) = c := fun e => hc e.symm
      have hp : ([32] : List UInt8).isPrefixOf (c :: l) = false := by show ((32 : UInt8) == c && ([] : List UInt8).isPrefixOf l) = false; rw [beq_eq_false_iff_ne.2 hc2]; rfl
      rcases ih with ⟨h1, h2⟩ | ⟨a, b, e, ha, hi⟩
      · refine .inl ⟨?_, by simp [hc2, h2]⟩
        unfold Lib.index
        rw [hp, h1]
        rfl
      · refine .inr ⟨c :: a, b, by rw [e]; rfl, by simp [hc2, ha], ?_⟩
        unfold Lib.index
        rw [hp, hi]
        have : (((a.length : Nat) : Int) == -1) = false := by rw [beq_eq_false_iff_ne]; omega
        simp [this]
theorem splitK_eq : ∀ (n : Nat) (l : List UInt8), l.length ≤ n → Lib.splitK [32] 0 (Lib.count l [32]) l = splitL l := by
  intro n
  induction n with
  | zero =>
    intro l hl
    obtain rfl : l = [] := List.eq_nil_of_length_eq_zero (by omega)
    rw [Lib.count_miss (s := []) (sub := [32]) rfl]
    rfl
  | succ n ih =>
    intro l hl
    rcases first_blank l with ⟨h1, h2⟩ | ⟨a, b, e, ha, hi⟩
    · rw [Lib.count_miss h1, splitL_none h2]
      rfl
    · have hd : l.drop (a.length + ([32] : List UInt8).length) = b := by rw [e]; simp
      rw [Lib.count_hit (by simp) hi, hd, Nat.add_comm]
      unfold Lib.splitK
      have hm : ¬ (Lib.index l [32] == -1) = true := by rw [hi]; simp
      rw [if_neg hm, hi, Int.toNat_natCast, hd, ih b (by rw [e] at hl; simp at hl; omega)]
      rw [e, splitL_app ha]
      simp
theorem splitB_list (s : ByteArray) : (Lib.splitB ⟨#[32]⟩ 0 (Lib.countB s ⟨#[32]⟩) s).map (·.data.toList) = splitL s.data.toList := by
  rw [Lib.splitB_data]
  exact splitK_eq s.data.toList.length _ (Nat.le_refl _)
/-- The reference's cut. -/
theorem extract_list (s : ByteArray) (a b : Nat) : (s.extract a b).toList = (s.toList.drop a).take (b - a) := by
  rw [toList_data, toList_data, Lib.extract_data]
theorem bt_list (s : ByteArray) (i : Nat) (h : i < s.size) : bt s (i : Int) = ((s.toList[i]'(by rw [toList_data]; simpa using h)).toNat : Int) := by
  have := bt_get s i h
  simp only [toList_data]
  exact this
theorem toList_len (s : ByteArray) : s.toList.length = s.size := by rw [toList_data]; exact data_length s
theorem cut_loop (s : ByteArray) (hs : s.size ≤ 10000000) : ∀ d (i from_ : Nat) (out : List ByteArray), s.size - i = d → i ≤ s.size → from_ ≤ i → out.length ≤ i → (32 : UInt8) ∉ (s.toList.drop from_).take (i - from_) →
    EndsIn (fun k => spec_l41Cut.l0 k s out (from_ : Int) (i : Int)) (fun r => r.map ByteArray.toList = out.map ByteArray.toList ++ splitL (s.toList.drop from_)) := by
  intro d
  have hl := toList_len s
  induction d with
  | zero =>
    intro i f out hd hi hf ho hno
    obtain rfl : i = s.size := by omega
    refine EndsIn.step (fun k => by rw [spec_l41Cut.l0]) ?_
    simp only [if_neg (show ¬ ((s.size : Nat) : Int) < (s.size : Int) by omega), if_pos (show (0 : Int) ≤ (f : Int) by omega), if_pos (show (f : Int) ≤ (s.size : Int) by omega), if_pos (show out.length < 8796093022208 by omega)]
    refine EndsIn.now _ ?_
    have e : (s.toList.drop f).take (s.size - f) = s.toList.drop f := List.take_of_length_le (by rw [List.length_drop]; omega)
    rw [e] at hno
    rw [List.map_append, splitL_none hno, List.map_cons, List.map_nil, extract_list, Int.toNat_natCast, e]
  | succ d ih =>
    intro i f out hd hi hf ho hno
    have hlt : i < s.size := by omega
    refine EndsIn.step (fun k => by rw [spec_l41Cut.l0]) ?_
    simp only [if_pos (show (i : Int) < (s.size : Int) by omega), if_pos (show (0 : Int) ≤ (i : Int) by omega), if_pos (show (0 : Int) ≤ (f : Int) by omega), if_pos (show (f : Int) ≤ (i : Int) by omega), if_pos (show (i : Int) ≤ (s.size : Int) by omega), if_pos (show out.length < 8796093022208 by omega), bt_list s i hlt, w64 (a := (i : Int) + 1) (by omega) (by omega)]
    have hli : i < s.toList.length := by omega
    have hdrop : s.toList.drop f = (s.toList.drop f).take (i - f) ++ s.toList[i] :: s.toList.drop (i + 1) := by
      have h1 : (s.toList.drop f).drop (i - f) = s.toList.drop i := by rw [List.drop_drop]; congr 1; omega
      rw [← List.drop_eq_getElem_cons hli, ← h1, List.take_append_drop]
    by_cases hc : s.toList[i] = 32
    · have hc' : ((s.toList[i].toNat : Nat) : Int) = 32 := by rw [hc]; rfl
      simp only [if_pos hc']
      have := ih (i + 1) (i + 1) (out ++ [s.extract f i]) (by omega) (by omega) (by omega) (by simp; omega) (by simp)
      simp only [Int.toNat_natCast]
      refine EndsIn.mono (by exact_mod_cast this) fun r hr => ?_
      rw [hr, List.map_append, List.map_cons, List.map_nil, extract_list, List.append_assoc]
      congr 1
      rw [hdrop, hc, splitL_app hno]
      rw [← hc, ← hdrop]
      simp
    · have hc' : ¬ ((s.toList[i].toNat : Nat) : Int) = 32 := fun e => hc (UInt8.toNat_inj.1 (by simpa using (by omega : s.toList[i].toNat = 32)))
      simp only [if_neg hc']
      have hno2 : (32 : UInt8) ∉ (s.toList.drop f).take (i + 1 - f) := by
        have e : (s.toList.drop f).take (i + 1 - f) = (s.toList.drop f).take (i - f) ++ [s.toList[i]] := by
          have hlt2 : i - f < (s.toList.drop f).length := by rw [List.length_drop]; omega
          rw [show i + 1 - f = (i - f) + 1 by omega, List.take_succ_eq_append_getElem hlt2]
          simp only [List.getElem_drop]
          congr 3
          omega
        rw [e, List.mem_append, List.mem_singleton]
        rintro (h | h)
        · exact hno h
        · exact hc h.symm
      have := ih (i + 1) f out (by omega) (by omega) (by omega) (by omega) hno2
      exact_mod_cast this
theorem cut_ends (s : ByteArray) (hs : s.size ≤ 10000000) : EndsIn (fun k => spec_l41Cut.f k s) (fun r => r.map ByteArray.toList = splitL s.toList) := by
  unfold spec_l41Cut.f
  have := cut_loop s hs s.size 0 0 [] (by omega) (by omega) (by omega) (by simp) (by simp)
  refine EndsIn.mono (by exact_mod_cast this) fun r hr => ?_
  simpa using hr
end Go.Proofs.YteoicjlhkaljbaaDoor.Pu

namespace Go.Proofs.YteoicjlhkaljbaaDoor.Pu
open Go.RowKit Go.Proofs.YteoicjlhkaljbaaDoorW.PrintWords Go.Proofs.YteoicjlhkaljbaaDoorW.PrintLast Go.Proofs.YteoicjlhkaljbaaDoor.G
set_option linter.unusedVariables false
set_option linter.unusedSimpArgs false
def isDig (c : UInt8) : Bool := decide (48 ≤ c.toNat) && decide (c.toNat ≤ 57)
theorem val_snoc (l : List UInt8) (c : UInt8) : val (l ++ [c]) = 10 * val l + (c.toNat - 48) := by
  unfold val
  rw [List.foldl_append]
  rfl
theorem val_lt : ∀ (n : Nat) (l : List UInt8), l.length = n → l.all isDig = true → val l < 10 ^ l.length := by
  intro n
  induction n with
  | zero => intro l hl _; rw [List.eq_nil_of_length_eq_zero hl]; decide
  | succ n ih =>
    intro l hl ha
    obtain ⟨m, c, rfl⟩ : ∃ m c, l = m ++ [c] := by
      rcases List.eq_nil_or_concat l with rfl | ⟨m, c, rfl⟩
      · simp at hl
      · exact ⟨m, c, by simp⟩
    simp only [List.length_append, List.length_singleton] at hl
    rw [List.all_append, Bool.and_eq_true] at ha
    have h1 := ih m (by omega) ha.1
    have hc : isDig c = true := by simpa using ha.2
    unfold isDig at hc
    simp only [Bool.and_eq_true, decide_eq_true_eq] at hc
    rw [val_snoc, List.length_append, List.length_singleton, Nat.pow_succ]
    omega
/-- One to five digits, no zero ahead. -/
def shape (l : List UInt8) : Bool := decide (1 ≤ l.length) && decide (l.length ≤ 5) && !(decide (1 < l.length) && l.headD 0 == 48)
def numI (l : List UInt8) : Int × Bool := if (shape l && l.all isDig) = true then ((val l : Nat), true) else (0, false)
theorem dec_val : ∀ (n : Nat) (l : List UInt8), l.length = n → l ≠ [] → l.all isDig = true → (1 < l.length → l.headD 0 ≠ 48) → dec (val l) = l := by
  intro n
  induction n with
  | zero => intro l hl hne; exact absurd (List.eq_nil_of_length_eq_zero hl) hne
  | succ n ih =>
    intro l hl hne ha hz
    obtain ⟨m, c, rfl⟩ : ∃ m c, l = m ++ [c] := by
      rcases List.eq_nil_or_concat l with rfl | ⟨m, c, rfl⟩
      · simp at hl
      · exact ⟨m, c, by simp⟩
    simp only [List.length_append, List.length_singleton] at hl hz
    rw [List.all_append, Bool.and_eq_true] at ha
    have hc : isDig c = true := by simpa using ha.2
    unfold isDig at hc
    simp only [Bool.and_eq_true, decide_eq_true_eq] at hc
    have hcc : UInt8.ofNat (48 + (c.toNat - 48)) = c := by rw [show 48 + (c.toNat - 48) = c.toNat by omega]; simp
    rw [val_snoc]
    cases m with
    | nil =>
      show dec (10 * 0 + (c.toNat - 48)) = [c]
      unfold dec
      rw [dif_pos (by omega), show 48 + (10 * 0 + (c.toNat - 48)) = 48 + (c.toNat - 48) by omega, hcc]
    | cons x m =>
      have hz' : x ≠ 48 := by simpa using hz (by simp)
      have hm := ih (x :: m) (by omega) (by simp) ha.1 (fun _ => by simpa using hz')
      have hpos : 1 ≤ val (x :: m) := by
        rcases Nat.eq_zero_or_pos (val (x :: m)) with h0 | h0
        · rw [h0] at hm
          have : dec 0 = [48] := by unfold dec; rfl
          rw [this] at hm
          simp only [List.cons.injEq] at hm
          exact absurd hm.1.symm hz'
        · exact h0
      rw [dec, dif_neg (by omega), show (10 * val (x :: m) + (c.toNat - 48)) / 10 = val (x :: m) by omega, show (10 * val (x :: m) + (c.toNat - 48)) % 10 = c.toNat - 48 by omega, hm, hcc]
theorem dec_head (n : Nat) (h : 10 ≤ n) : (dec n).headD 0 ≠ 48 := by
  induction n using Nat.strongRecOn with
  | ind n ih =>
    have hd : dec n = dec (n / 10) ++ [UInt8.ofNat (48 + n % 10)] := by rw [dec, dif_neg (by omega)]
    rw [hd]
    by_cases h2 : n / 10 < 10
    · have : dec (n / 10) = [UInt8.ofNat (48 + n / 10)] := by rw [dec, dif_pos h2]
      rw [this]
      show UInt8.ofNat (48 + n / 10) ≠ 48
      intro e
      have := congrArg UInt8.toNat e
      simp only [UInt8.toNat_ofNat'] at this
      have h48 : (48 : UInt8).toNat = 48 := rfl
      omega
    · have := ih (n / 10) (by omega) (by omega)
      cases hq : dec (n / 10) with
      | nil => rw [hq] at this; have hl := dec_digit (n / 10); unfold dec at hq; split at hq <;> simp at hq
      | cons y ys => rw [hq] at this; simpa using this
theorem dec_ne (n : Nat) : dec n ≠ [] := by unfold dec; split <;> simp
theorem dec_all (n : Nat) : (dec n).all isDig = true := List.all_eq_true.2 fun c hc => by
  have := dec_digit n c hc
  unfold isDig
  simp only [Bool.and_eq_true, decide_eq_true_eq]
  exact this
theorem shape_dec (n : Nat) (h : n ≤ 99999) : shape (dec n) = true := by
  have h1 := dec_len n 4 (by omega)
  have h2 : 1 ≤ (dec n).length := List.length_pos_iff.2 (dec_ne n)
  unfold shape
  simp only [Bool.and_eq_true, decide_eq_true_eq, Bool.not_eq_true', Bool.and_eq_false_iff, decide_eq_false_iff_not, beq_eq_false_iff_ne]
  refine ⟨⟨h2, h1⟩, ?_⟩
  by_cases h10 : n < 10
  · left
    have : dec n = [UInt8.ofNat (48 + n)] := by rw [dec, dif_pos h10]
    rw [this]
    simp
  · exact .inr (dec_head n (by omega))
theorem numI_dec (n : Nat) (h : n ≤ 99999) : numI (dec n) = (((n : Nat) : Int), true) := by
  unfold numI
  rw [shape_dec n h, dec_all n, val_dec]
  rfl
theorem numI_inv {l : List UInt8} {n : Int} (h : numI l = (n, true)) : ∃ m : Nat, n = m ∧ m ≤ 99999 ∧ dec m = l := by
  unfold numI at h
  by_cases hs : (shape l && l.all isDig) = true
  · rw [if_pos hs] at h
    obtain rfl : ((val l : Nat) : Int) = n := congrArg Prod.fst h
    rw [Bool.and_eq_true] at hs
    obtain ⟨h1, h2⟩ := hs
    unfold shape at h1
    simp only [Bool.and_eq_true, decide_eq_true_eq, Bool.not_eq_true', Bool.and_eq_false_iff, decide_eq_false_iff_not, beq_eq_false_iff_ne] at h1
    have hv := val_lt l.length l rfl h2
    have hp : 10 ^ l.length ≤ 10 ^ 5 := Nat.pow_le_pow_right (by decide) h1.1.2
    refine ⟨val l, rfl, by omega, dec_val l.length l rfl (fun e => by rw [e] at h1; simp at h1) h2 (fun hl => ?_)⟩
    rcases h1.2 with h3 | h3
    · exact absurd hl h3
    · exact h3
  · rw [if_neg hs] at h
    cases h
theorem bt_dig (s : ByteArray) (i : Nat) (h : i < s.toList.length) : isDig s.toList[i] = (decide (¬ bt s (i : Int) < 48) && decide (¬ bt s (i : Int) > 57)) := by
  rw [bt_list s i (by rw [← toList_len]; exact h)]
  unfold isDig
  congr 1
  · exact decide_eq_decide.2 (by omega)
  · exact decide_eq_decide.2 (by omega)
/-- A loop over the digits of a word. -/
theorem num_loop {β : Type} (s : ByteArray) (hs : s.size ≤ 5) (L : Nat → Int → Int → Option β) (no : β) (yes : Int → β)
    (hend : ∀ k x, L (k + 1) x (s.size : Int) = some (yes x))
    (hstep : ∀ k x (i : Nat), i < s.size → L (k + 1) x (i : Int) = if bt s (i : Int) < 48 then some no else if bt s (i : Int) > 57 then some no else L k (wrap64 ((wrap64 (10 * x)) + ((bt s (i : Int) - 48) % 256))) (wrap64 ((i : Int) + 1))) :
    ∀ d i, s.size - i = d → i ≤ s.size → (s.toList.take i).all isDig = true → Ev (fun k => L k ((val (s.toList.take i) : Nat) : Int) (i : Int)) (if s.toList.all isDig = true then yes ((val s.toList : Nat) : Int) else no) := by
  intro d
  have hl := toList_len s
  induction d with
  | zero =>
    intro i hd hi ha
    obtain rfl : i = s.size := by omega
    refine Ev.step (fun k => hend k _) ?_
    have e : s.toList.take s.size = s.toList := List.take_of_length_le (by omega)
    rw [e] at ha ⊢
    rw [if_pos ha]
    exact Ev.now _
  | succ d ih =>
    intro i hd hi ha
    have hlt : i < s.size := by omega
    have hli : i < s.toList.length := by omega
    refine Ev.step (fun k => hstep k _ i hlt) ?_
    have hb := bt_dig s i hli
    have hbl := bt_list s i hlt
    have hno : isDig s.toList[i] = false → s.toList.all isDig = false := fun h => by
      rw [List.all_eq_false]
      exact ⟨_, List.getElem_mem hli, by simp [h]⟩
    by_cases h1 : bt s (i : Int) < 48
    · simp only [if_pos h1]
      rw [hno (by rw [hb]; simp [h1])]
      exact Ev.now _
    · simp only [if_neg h1]
      by_cases h2 : bt s (i : Int) > 57
      · simp only [if_pos h2]
        rw [hno (by rw [hb]; simp [h2])]
        exact Ev.now _
      · simp only [if_neg h2]
        have htk : s.toList.take (i + 1) = s.toList.take i ++ [s.toList[i]] := List.take_succ_eq_append_getElem hli
        have hv := val_lt (s.toList.take i).length (s.toList.take i) rfl ha
        have hp : 10 ^ (s.toList.take i).length ≤ 10 ^ 5 := Nat.pow_le_pow_right (by decide) (by rw [List.length_take]; omega)
        have hd2 : isDig s.toList[i] = true := by rw [hb]; simp; omega
        have := ih (i + 1) (by omega) (by omega) (by rw [htk, List.all_append, ha]; simpa using hd2)
        rw [htk, val_snoc] at this
        rw [w64 (a := 10 * ((val (s.toList.take i) : Nat) : Int)) (by omega) (by omega), hbl]
        have hr := (isDig_iff s.toList[i]).1 hd2
        rw [show ((s.toList[i].toNat : Int) - 48) % 256 = ((s.toList[i].toNat - 48 : Nat) : Int) by omega, w64 (by omega) (by omega), w64 (by omega) (by omega)]
        exact_mod_cast this
where isDig_iff (c : UInt8) : isDig c = true ↔ 48 ≤ c.toNat ∧ c.toNat ≤ 57 := by unfold isDig; simp
theorem bt_head (s : ByteArray) (h : 0 < s.size) : (bt s 0 == 48) = (s.toList.headD 0 == 48) := by
  have hl := toList_len s
  have := bt_list s 0 h
  rw [show ((0 : Nat) : Int) = 0 from rfl] at this
  rw [this]
  obtain ⟨c, l, hs⟩ : ∃ c l, s.toList = c :: l := by
    cases hs : s.toList with
    | nil => rw [hs] at hl; simp at hl; omega
    | cons c l => exact ⟨c, l, rfl⟩
  have h0 : s.toList[0]'(by rw [hs]; simp) = c := by simp [hs]
  rw [h0, hs, List.headD_cons]
  rw [Bool.eq_iff_iff, beq_iff_eq, beq_iff_eq]
  constructor
  · intro hh
    exact UInt8.toNat_inj.1 (by simpa using (by omega : c.toNat = 48))
  · rintro rfl
    rfl
theorem numberOf_ev (s : ByteArray) (hs : s.size ≤ 10000000) : Ev (fun k => impl_numberOf.f k s) (numI s.toList) := by
  have hl := toList_len s
  unfold impl_numberOf.f
  have hgo : 1 ≤ s.size → s.size ≤ 5 → shape s.toList = true → Ev (fun k => impl_numberOf.j0 k s false) (numI s.toList) := by
    intro h1 h5 hsh
    refine Ev.step (fun k => by rw [impl_numberOf.j0]) ?_
    simp only [Bool.false_eq_true, if_false]
    have := num_loop s h5 (fun k x i => impl_numberOf.l0 k s x (s.size : Int) i) ((0 : Int), false) (fun x => (x, true)) (fun k x => by simp only [impl_numberOf.l0]; rw [if_neg (by omega)])
      (fun k x i hi => by simp only [impl_numberOf.l0]; rw [if_pos (by omega), if_pos (by omega), if_pos (by omega)]) s.size 0 (by omega) (by omega) rfl
    unfold numI
    rw [hsh, Bool.true_and]
    exact this
  have hstop : shape s.toList = false → Ev (fun k => impl_numberOf.j0 k s true) (numI s.toList) := by
    intro h
    refine Ev.step (fun k => by rw [impl_numberOf.j0]) ?_
    simp only [if_true]
    unfold numI
    rw [h]
    exact Ev.now _
  by_cases h1 : (s.size : Int) < 1
  · simp only [if_pos h1]
    exact hstop (by unfold shape; rw [hl, decide_eq_false (by omega)]; rfl)
  · simp only [if_neg h1]
    by_cases h5 : (s.size : Int) > 5
    · simp only [if_pos h5]
      exact hstop (by unfold shape; rw [hl, decide_eq_false (show ¬ s.size ≤ 5 by omega)]; simp)
    · simp only [if_neg h5]
      by_cases h2 : (s.size : Int) > 1
      · simp only [if_pos h2, if_pos (show (0 : Int) < (s.size : Int) by omega), bt_head s (by omega)]
        have hsh : shape s.toList = !(s.toList.headD 0 == 48) := by
          unfold shape
          rw [hl, decide_eq_true (show 1 ≤ s.size by omega), decide_eq_true (show s.size ≤ 5 by omega), decide_eq_true (show 1 < s.size by omega)]
          rfl
        cases hh : (s.toList.headD 0 == 48)
        · exact hgo (by omega) (by omega) (by rw [hsh, hh]; rfl)
        · exact hstop (by rw [hsh, hh]; rfl)
      · simp only [if_neg h2]
        exact hgo (by omega) (by omega) (by unfold shape; rw [hl, decide_eq_true (show 1 ≤ s.size by omega), decide_eq_true (show s.size ≤ 5 by omega), decide_eq_false (show ¬ 1 < s.size by omega)]; rfl)
/-- The reference's number. -/
def numS (l : List UInt8) : Int := if (decide (1 ≤ l.length) && decide (l.length ≤ 5) && l.all isDig) = true then ((val l : Nat) : Int) else -1
theorem numS_dec (n : Nat) (h : n ≤ 99999) : numS (dec n) = (n : Nat) := by
  have h1 := dec_len n 4 (by omega)
  have h2 : 1 ≤ (dec n).length := List.length_pos_iff.2 (dec_ne n)
  unfold numS
  rw [decide_eq_true h2, decide_eq_true h1, dec_all n, val_dec]
  rfl
theorem number_ev (s : ByteArray) (hs : s.size ≤ 10000000) : Ev (fun k => spec_l41Number.f k s) (numS s.toList) := by
  have hl := toList_len s
  unfold spec_l41Number.f numS
  rw [in_ev, hl]
  simp only [bindS]
  rw [show (decide ((1 : Int) ≤ (s.size : Int)) && decide ((s.size : Int) ≤ 5)) = (decide (1 ≤ s.size) && decide (s.size ≤ 5)) by
    congr 1
    · exact decide_eq_decide.2 (by omega)
    · exact decide_eq_decide.2 (by omega)]
  by_cases h : (decide (1 ≤ s.size) && decide (s.size ≤ 5)) = true
  · rw [h]
    simp only [if_true, Bool.true_and]
    simp only [Bool.and_eq_true, decide_eq_true_eq] at h
    have := num_loop s h.2 (fun k x i => spec_l41Number.l0 k s x i) (-1 : Int) (fun x => x) (fun k x => by simp only [spec_l41Number.l0]; rw [if_neg (by omega)])
      (fun k x i hi => by simp only [spec_l41Number.l0]; rw [if_pos (by omega), if_pos (by omega)]) s.size 0 (by omega) (by omega) rfl
    exact this
  · have h' : (decide (1 ≤ s.size) && decide (s.size ≤ 5)) = false := by simpa using h
    rw [h']
    simp only [Bool.false_eq_true, if_false, Bool.false_and]
    exact Ev.now _
end Go.Proofs.YteoicjlhkaljbaaDoor.Pu

namespace Go.Proofs.YteoicjlhkaljbaaDoor.Pu
open Go.RowKit Go.Proofs.YteoicjlhkaljbaaDoorW.PrintWords Go.Proofs.YteoicjlhkaljbaaDoorW.PrintLast Go.Proofs.YteoicjlhkaljbaaDoor.G
set_option linter.unusedVariables false
set_option linter.unusedSimpArgs false
def hexs : List UInt8 := [48, 49, 50, 51, 52, 53, 54, 55, 56, 57, 97, 98, 99, 100, 101, 102]
def hexI (c : UInt8) : Int := Lib.indexByte hexs c
theorem hexI_tab : ∀ c : Fin 256, hexI (UInt8.ofNat c.val) = if 48 ≤ c.val ∧ c.val ≤ 57 then (c.val : Int) - 48 else if 97 ≤ c.val ∧ c.val ≤ 102 then (c.val : Int) - 87 else -1 := by decide +kernel
theorem hexI_eq (c : UInt8) : hexI c = if 48 ≤ c.toNat ∧ c.toNat ≤ 57 then (c.toNat : Int) - 48 else if 97 ≤ c.toNat ∧ c.toNat ≤ 102 then (c.toNat : Int) - 87 else -1 := by
  have h := hexI_tab ⟨c.toNat, c.toNat_lt⟩
  simp only [UInt8.ofNat_toNat] at h
  exact h
theorem hexI_range (c : UInt8) : -1 ≤ hexI c ∧ hexI c < 16 := by rw [hexI_eq]; split; omega; split <;> omega
theorem hexI_hx (n : Nat) (h : n < 16) : hexI (hx n) = n := by
  have : ∀ i : Fin 16, hexI (hx i.val) = i.val := by decide +kernel
  exact this ⟨n, h⟩
theorem hx_hexI (c : UInt8) (h : 0 ≤ hexI c) : hx (hexI c).toNat = c := by
  have hh := hexI_eq c
  unfold hx
  split at hh
  · rw [hh, if_pos (by omega), show 48 + ((c.toNat : Int) - 48).toNat = c.toNat by omega]; simp
  · split at hh
    · rw [hh, if_neg (by omega), show 87 + ((c.toNat : Int) - 87).toNat = c.toNat by omega]; simp
    · omega
def unhexI : List UInt8 → Option (List Int)
  | a :: b :: r => if hexI a < 0 then none else if hexI b < 0 then none else (unhexI r).map (fun l => (16 * hexI a + hexI b) :: l)
  | _ => some []
def noPart : Bool × List Int × Bool := (false, [], false)
def partI (l : List UInt8) : Bool × List Int × Bool :=
  if l = [45] then (false, [], true) else if (decide (l.take 1 = [120]) && (decide ((l.drop 1).length % 2 = 0) && decide ((l.drop 1).length ≤ 24))) = true then (match unhexI (l.drop 1) with | some b => (true, b, true) | none => noPart) else noPart
theorem unhex_hex : ∀ l : List Int, l.all isB = true → unhexI (hexOf l) = some l
  | [], _ => rfl
  | x :: l, h => by
    rw [List.all_cons, Bool.and_eq_true, isB_iff] at h
    have ih := unhex_hex l h.2
    show unhexI (hx (x.toNat / 16) :: hx (x.toNat % 16) :: hexOf l) = _
    unfold unhexI
    rw [hexI_hx _ (by omega), hexI_hx _ (by omega), if_neg (by omega), if_neg (by omega), ih]
    simp only [Option.map_some, Option.some.injEq, List.cons.injEq, and_true]
    omega
theorem hex_unhex : ∀ (n : Nat) (l : List UInt8) (b : List Int), l.length ≤ n → l.length % 2 = 0 → unhexI l = some b → hexOf b = l ∧ b.all isB = true ∧ 2 * b.length = l.length := by
  intro n
  induction n with
  | zero =>
    intro l b hl _ h
    obtain rfl : l = [] := List.eq_nil_of_length_eq_zero (by omega)
    obtain rfl : [] = b := Option.some.inj h
    exact ⟨rfl, rfl, rfl⟩
  | succ n ih =>
    intro l b hl hm h
    match l, hl, hm, h with
    | [], _, _, h =>
      obtain rfl : [] = b := Option.some.inj h
      exact ⟨rfl, rfl, rfl⟩
    | [_], _, hm, _ => simp at hm
    | a :: c :: r, hl, hm, h =>
      simp only [List.length_cons] at hl hm
      unfold unhexI at h
      by_cases h1 : hexI a < 0
      · rw [if_pos h1] at h; cases h
      · by_cases h2 : hexI c < 0
        · rw [if_neg h1, if_pos h2] at h; cases h
        · rw [if_neg h1, if_neg h2] at h
          obtain ⟨b', hb, rfl⟩ := Option.map_eq_some_iff.1 h
          obtain ⟨e1, e2, e3⟩ := ih r b' (by omega) (by omega) hb
          have ra := hexI_range a
          have rc := hexI_range c
          refine ⟨?_, ?_, by simp only [List.length_cons]; omega⟩
          · show hx ((16 * hexI a + hexI c).toNat / 16) :: hx ((16 * hexI a + hexI c).toNat % 16) :: hexOf b' = _
            rw [e1, show (16 * hexI a + hexI c).toNat / 16 = (hexI a).toNat by omega, show (16 * hexI a + hexI c).toNat % 16 = (hexI c).toNat by omega, hx_hexI a (by omega), hx_hexI c (by omega)]
          · rw [List.all_cons, e2, Bool.and_true, isB_iff]
            omega
theorem partI_part {has : Bool} {l : List Int} (h : partOk has l = true) : partI (partT has l) = (has, l, true) := by
  unfold partOk at h
  unfold partI partT
  cases has
  · simp only [Bool.false_eq_true, if_false, decide_eq_true_eq] at h
    rw [List.eq_nil_of_length_eq_zero h]
    rfl
  · simp only [if_true, Bool.and_eq_true, decide_eq_true_eq] at h
    simp only [if_true]
    have hl := hexOf_len l
    rw [if_neg (by intro e; have := congrArg (fun l => l.headD 0) e; simp at this)]
    have e1 : List.take 1 (120 :: hexOf l) = [120] := rfl
    have e2 : List.drop 1 (120 :: hexOf l) = hexOf l := rfl
    rw [e1, e2, hl, decide_eq_true rfl, decide_eq_true (show 2 * l.length % 2 = 0 by omega), decide_eq_true (show 2 * l.length ≤ 24 by omega), unhex_hex l h.2]
    rfl
theorem partI_inv {w : List UInt8} {has : Bool} {l : List Int} (h : partI w = (has, l, true)) : partT has l = w ∧ partOk has l = true := by
  unfold partI at h
  by_cases h1 : w = [45]
  · rw [if_pos h1] at h
    obtain ⟨rfl, h2⟩ : has = false ∧ l = [] := by simp only [Prod.mk.injEq] at h; exact ⟨h.1.symm, h.2.1.symm⟩
    subst h2
    exact ⟨h1.symm, rfl⟩
  · rw [if_neg h1] at h
    by_cases h2 : (decide (w.take 1 = [120]) && (decide ((w.drop 1).length % 2 = 0) && decide ((w.drop 1).length ≤ 24))) = true
    · rw [if_pos h2] at h
      simp only [Bool.and_eq_true, decide_eq_true_eq] at h2
      cases hu : unhexI (w.drop 1) with
      | none => rw [hu] at h; simp [noPart] at h
      | some b =>
        rw [hu] at h
        simp only [Prod.mk.injEq] at h
        obtain ⟨rfl, rfl, _⟩ := h
        obtain ⟨e1, e2, e3⟩ := hex_unhex _ _ _ (Nat.le_refl _) h2.2.1 hu
        refine ⟨?_, ?_⟩
        · unfold partT
          rw [if_pos rfl, e1]
          have := List.take_append_drop 1 w
          rw [h2.1] at this
          exact this
        · unfold partOk
          rw [if_pos rfl, e2, Bool.and_true]
          exact decide_eq_true (by omega)
    · rw [if_neg h2] at h
      simp [noPart] at h
theorem idx_some (s : ByteArray) (i : Nat) (h : i < s.toList.length) : strings_IndexByte.f (⟨#[48, 49, 50, 51, 52, 53, 54, 55, 56, 57, 97, 98, 99, 100, 101, 102]⟩ : ByteArray) (bt s (i : Int)) = some (hexI s.toList[i]) := by
  rw [bt_list s i (by rw [← toList_len]; exact h)]
  unfold strings_IndexByte.f hexI hexs
  congr 2
  show ((s.toList[i].toNat : Int).toNat).toUInt8 = s.toList[i]
  rw [Int.toNat_natCast]
  simp
theorem or16 (a b : Int) (h0 : 0 ≤ a) (h1 : a < 16) (k0 : 0 ≤ b) (k1 : b < 16) : bits .or .i64 (a * 16) b = 16 * a + b := by
  rw [bits_join .i64 62 (by decide) (fun n h0 h1 => by rw [IntKind.wrap_i64]; omega) 4 (a * 16) b (by omega) (by omega) (by omega) k0 (by omega) (by omega)]
  omega
theorem part_loop41 (s : ByteArray) (hs : s.size ≤ 24) (hm : s.size % 2 = 0) : ∀ d (i : Nat) (out : List Int), s.size - i = d → i ≤ s.size → i % 2 = 0 → out.length ≤ i →
    Ev (fun k => impl_partOf.l0 k s out (i : Int)) (match unhexI (s.toList.drop i) with | some b => (true, out ++ b, true) | none => noPart) := by
  have hl := toList_len s
  intro d
  induction d using Nat.strongRecOn with
  | ind d ih =>
    intro i out hd hi hi2 ho
    by_cases hlt : i < s.size
    · have h0 : i < s.toList.length := by omega
      have h1 : i + 1 < s.toList.length := by omega
      refine Ev.step (fun k => by rw [impl_partOf.l0]) ?_
      rw [List.drop_eq_getElem_cons h0, List.drop_eq_getElem_cons h1]
      simp only [if_pos (show (i : Int) < (s.size : Int) by omega), if_pos (show (0 : Int) ≤ (i : Int) by omega), w64 (a := (i : Int) + 1) (by omega) (by omega), if_pos (show (0 : Int) ≤ (i : Int) + 1 by omega), if_pos (show (i : Int) + 1 < (s.size : Int) by omega), idx_some s i h0, bindS]
      have hx1 := idx_some s (i + 1) h1
      rw [show ((i + 1 : Nat) : Int) = (i : Int) + 1 by omega] at hx1
      simp only [hx1, bindS]
      have ra := hexI_range s.toList[i]
      have rb := hexI_range (s.toList[i + 1]'h1)
      have hun : unhexI (s.toList[i] :: (s.toList[i + 1]'h1) :: s.toList.drop (i + 1 + 1)) = if hexI s.toList[i] < 0 then none else if hexI (s.toList[i + 1]'h1) < 0 then none else (unhexI (s.toList.drop (i + 1 + 1))).map (fun l => (16 * hexI s.toList[i] + hexI (s.toList[i + 1]'h1)) :: l) := by conv => lhs; unfold unhexI
      rw [hun]
      by_cases ha : hexI s.toList[i] < 0
      · simp only [if_pos ha]
        exact Ev.now _
      · simp only [if_neg ha]
        by_cases hb : hexI (s.toList[i + 1]'h1) < 0
        · simp only [if_pos hb]
          exact Ev.now _
        · simp only [if_neg hb, if_pos (show out.length < 17592186044416 by omega), w64 (a := hexI s.toList[i] * 16) (by omega) (by omega), or16 _ _ (by omega) ra.2 (by omega) rb.2, w64 (a := (i : Int) + 2) (by omega) (by omega)]
          have := ih (s.size - (i + 2)) (by omega) (i + 2) (out ++ [16 * hexI s.toList[i] + hexI (s.toList[i + 1]'h1)]) rfl (by omega) (by omega) (by simp; omega)
          rw [show ((i + 2 : Nat) : Int) = (i : Int) + 2 by omega] at this
          cases hu : unhexI (s.toList.drop (i + 1 + 1)) with
          | none => rw [show i + 2 = i + 1 + 1 from rfl, hu] at this; exact this
          | some b => rw [show i + 2 = i + 1 + 1 from rfl, hu] at this; simpa using this
    · obtain rfl : i = s.size := by omega
      refine Ev.step (fun k => by rw [impl_partOf.l0]) ?_
      simp only [if_neg (show ¬ ((s.size : Nat) : Int) < (s.size : Int) by omega)]
      rw [List.drop_of_length_le (by omega)]
      simp only [unhexI, List.append_nil]
      exact Ev.now _
theorem cutPrefix_some (s : ByteArray) : strings_CutPrefix.f s (⟨#[120]⟩ : ByteArray) = if s.toList.take 1 = [120] then some (s.extract 1 s.size, true) else some (s, false) := by
  have hl := toList_len s
  have hz : (ByteArray.mk #[120]).size = 1 := rfl
  have h120 : (ByteArray.mk #[120]).toList = [120] := toList_mk [120]
  unfold strings_CutPrefix.f stringslite_CutPrefix.f stringslite_HasPrefix.f
  simp only [hz]
  by_cases h : (s.size : Int) ≥ 1
  · simp only [if_pos h, if_pos (show (0 : Int) ≤ ((1 : Nat) : Int) by omega), if_pos (show ((1 : Nat) : Int) ≤ (s.size : Int) by omega), bindS, h120]
    have e : (s.extract 0 ((1 : Nat) : Int).toNat).toList = s.toList.take 1 := by rw [extract_list]; rfl
    rw [e]
    by_cases hp : s.toList.take 1 = [120]
    · rw [hp, if_pos rfl]
      rfl
    · rw [if_neg hp, if_neg (by simpa using hp)]
      rfl
  · have hn : s.toList.take 1 ≠ [120] := by
      intro e
      have := congrArg List.length e
      rw [List.length_take] at this
      simp at this
      omega
    simp only [if_neg (show ¬ ((s.size : Int) ≥ ((1 : Nat) : Int)) by omega), bindS, if_neg hn]
    rfl
theorem partOf_ev (s : ByteArray) (hs : s.size ≤ 10000000) : Ev (fun k => impl_partOf.f k s) (partI s.toList) := by
  have hl := toList_len s
  unfold impl_partOf.f partI
  by_cases h1 : s.toList = [45]
  · simp only [if_pos h1]
    exact Ev.now _
  · simp only [if_neg h1, cutPrefix_some]
    have hstop : ∀ t : ByteArray, Ev (fun k => impl_partOf.j0 k t true) noPart := fun t => Ev.step (fun k => by rw [impl_partOf.j0]) (by simp only [if_true]; exact Ev.now _)
    by_cases hp : s.toList.take 1 = [120]
    · have hex : (s.extract 1 s.size).toList = s.toList.drop 1 := by
        rw [extract_list]
        exact List.take_of_length_le (by rw [List.length_drop]; omega)
      have hsz : (s.extract 1 s.size).size = (s.toList.drop 1).length := by rw [← toList_len, hex]
      simp only [if_pos hp, bindS, if_true, hsz]
      rw [decide_eq_true hp, Bool.true_and]
      by_cases h2 : ((s.toList.drop 1).length : Int) % 2 = 1
      · simp only [if_pos h2]
        rw [decide_eq_false (by omega)]
        exact hstop _
      · simp only [if_neg h2]
        rw [decide_eq_true (show (s.toList.drop 1).length % 2 = 0 by omega), Bool.true_and]
        by_cases h3 : (s.toList.drop 1).length ≤ 24
        · rw [decide_eq_true h3, decide_eq_false (by omega)]
          simp only [if_true]
          refine Ev.step (fun k => by rw [impl_partOf.j0]) ?_
          simp only [Bool.false_eq_true, if_false]
          have := part_loop41 (s.extract 1 s.size) (by omega) (by omega) _ 0 [] rfl (by omega) rfl (by simp)
          rw [List.drop_zero, hex] at this
          simpa using this
        · rw [decide_eq_false h3, decide_eq_true (by omega)]
          simp only [Bool.false_eq_true, if_false]
          exact hstop _
    · simp only [if_neg hp, bindS, Bool.false_eq_true, if_false]
      rw [decide_eq_false hp, Bool.false_and]
      simp only [Bool.false_eq_true, if_false]
      exact hstop _
/-- The reference's bytes. -/
def unhexS : List UInt8 → List Int
  | a :: b :: r => (16 * hexI a + hexI b) :: unhexS r
  | _ => []
theorem digit_ev (s : ByteArray) (i : Nat) (h : i < s.toList.length) : Ev (fun k => spec_l41Digit.f k (bt s (i : Int))) (hexI s.toList[i]) := by
  rw [bt_list s i (by rw [← toList_len]; exact h), hexI_eq]
  generalize s.toList[i].toNat = n
  unfold spec_l41Digit.f
  by_cases h1 : (n : Int) ≥ 48
  · simp only [if_pos h1]
    refine Ev.step (fun k => by rw [spec_l41Digit.j0]) ?_
    by_cases h2 : (n : Int) ≤ 57
    · simp only [decide_eq_true h2, if_true]
      rw [if_pos (show 48 ≤ n ∧ n ≤ 57 by omega), show ((n : Int) - 48) % 256 = n - 48 by omega]
      exact Ev.now _
    · simp only [decide_eq_false h2, Bool.false_eq_true, if_false]
      rw [if_neg (show ¬ (48 ≤ n ∧ n ≤ 57) by omega)]
      by_cases h3 : (n : Int) ≥ 97
      · simp only [if_pos h3]
        by_cases h4 : (n : Int) ≤ 102
        · simp only [if_pos h4]
          rw [if_pos (show 97 ≤ n ∧ n ≤ 102 by omega), show ((n : Int) - 97) % 256 + 10 = n - 87 by omega]
          exact Ev.now _
        · simp only [if_neg h4]
          rw [if_neg (show ¬ (97 ≤ n ∧ n ≤ 102) by omega)]
          exact Ev.now _
      · simp only [if_neg h3]
        rw [if_neg (show ¬ (97 ≤ n ∧ n ≤ 102) by omega)]
        exact Ev.now _
  · simp only [if_neg h1]
    refine Ev.step (fun k => by rw [spec_l41Digit.j0]) ?_
    simp only [Bool.false_eq_true, if_false, if_neg (show ¬ (n : Int) ≥ 97 by omega)]
    rw [if_neg (show ¬ (48 ≤ n ∧ n ≤ 57) by omega), if_neg (show ¬ (97 ≤ n ∧ n ≤ 102) by omega)]
    exact Ev.now _
theorem bytes_loop41 (s : ByteArray) (hs : s.size ≤ 10000000) : ∀ d (i : Nat) (out : List Int), s.size - i = d → i ≤ s.size + 1 → out.length ≤ i →
    Ev (fun k => spec_l41Bytes.l0 k s out (i : Int)) (out ++ unhexS (s.toList.drop i)) := by
  have hl := toList_len s
  intro d
  induction d using Nat.strongRecOn with
  | ind d ih =>
    intro i out hd hi ho
    refine Ev.step (fun k => by rw [spec_l41Bytes.l0]) ?_
    rw [w64 (a := (i : Int) + 1) (by omega) (by omega)]
    by_cases hlt : i + 1 < s.size
    · have h0 : i < s.toList.length := by omega
      have h1 : i + 1 < s.toList.length := by omega
      rw [List.drop_eq_getElem_cons h0, List.drop_eq_getElem_cons h1]
      simp only [if_pos (show (i : Int) + 1 < (s.size : Int) by omega), if_pos (show (0 : Int) ≤ (i : Int) by omega), if_pos (show (i : Int) < (s.size : Int) by omega), if_pos (show (0 : Int) ≤ (i : Int) + 1 by omega)]
      refine Ev.bind (digit_ev s i h0) ?_
      have hx1 := digit_ev s (i + 1) h1
      rw [show ((i + 1 : Nat) : Int) = (i : Int) + 1 by omega] at hx1
      refine Ev.bind hx1 ?_
      have ra := hexI_range s.toList[i]
      have rb := hexI_range (s.toList[i + 1]'h1)
      simp only [if_pos (show out.length < 17592186044416 by omega), w64 (a := 16 * hexI s.toList[i]) (by omega) (by omega), w64 (a := 16 * hexI s.toList[i] + hexI (s.toList[i + 1]'h1)) (by omega) (by omega), w64 (a := (i : Int) + 2) (by omega) (by omega)]
      have := ih (s.size - (i + 2)) (by omega) (i + 2) (out ++ [16 * hexI s.toList[i] + hexI (s.toList[i + 1]'h1)]) rfl (by omega) (by simp; omega)
      rw [show ((i + 2 : Nat) : Int) = (i : Int) + 2 by omega] at this
      simpa [unhexS] using this
    · simp only [if_neg (show ¬ (i : Int) + 1 < (s.size : Int) by omega)]
      have : unhexS (s.toList.drop i) = [] := by
        have hlen : (s.toList.drop i).length ≤ 1 := by rw [List.length_drop]; omega
        match hq : s.toList.drop i, hlen with
        | [], _ => rfl
        | [_], _ => rfl
      rw [this, List.append_nil]
      exact Ev.now _
theorem bytes41_ev (s : ByteArray) (hs : s.size ≤ 10000000) : Ev (fun k => spec_l41Bytes.f k s) (unhexS (s.toList.drop 1)) := by
  unfold spec_l41Bytes.f
  have := bytes_loop41 s hs _ 1 [] rfl (by omega) (by simp)
  simpa using this
theorem unhexS_hex : ∀ l : List Int, l.all isB = true → unhexS (hexOf l) = l
  | [], _ => rfl
  | x :: l, h => by
    rw [List.all_cons, Bool.and_eq_true, isB_iff] at h
    have ih := unhexS_hex l h.2
    show unhexS (hx (x.toNat / 16) :: hx (x.toNat % 16) :: hexOf l) = _
    unfold unhexS
    rw [hexI_hx _ (by omega), hexI_hx _ (by omega), ih]
    simp only [List.cons.injEq, and_true]
    omega
theorem unhexS_part {has : Bool} {l : List Int} (h : partOk has l = true) : unhexS ((partT has l).drop 1) = l ∧ (partT has l != [45]) = has := by
  unfold partOk at h
  unfold partT
  cases has
  · simp only [Bool.false_eq_true, if_false, decide_eq_true_eq] at h
    rw [List.eq_nil_of_length_eq_zero h]
    exact ⟨rfl, rfl⟩
  · simp only [if_true, Bool.and_eq_true, decide_eq_true_eq] at h
    exact ⟨unhexS_hex l h.2, by simp⟩
theorem unhexS_len : ∀ (n : Nat) (l : List UInt8), l.length ≤ n → (unhexS l).length ≤ n := by
  intro n
  induction n using Nat.strongRecOn with
  | ind n ih =>
    intro l hl
    match l, hl with
    | [], _ => simp [unhexS]
    | [_], _ => simp [unhexS]
    | a :: b :: r, hl =>
      simp only [List.length_cons] at hl
      have := ih (n - 2) (by omega) r (by omega)
      simp only [unhexS, List.length_cons]
      omega
end Go.Proofs.YteoicjlhkaljbaaDoor.Pu

namespace Go.Proofs.YteoicjlhkaljbaaDoor.G
open Go.RowKit Go.Shelf
/-- A builder of the call's own (from block B on), in block b: it holds these bytes. -/
def Bld (B b : Nat) (l : List UInt8) (w : World) : Prop := Lib.IsBuilderF 79 5 B b (Lib.byteCells l) w
theorem Bld.below {B b : Nat} {l : List UInt8} {w w' : World} (h : Bld B b l w) (hb : Below w.heap.size w w') : Bld B b l w' := by
  have one : ∀ {p : Value}, Lib.BuilderAtF 79 5 B b p (Lib.byteCells l) w → Lib.BuilderAtF 79 5 B b p (Lib.byteCells l) w' := by
    rintro p ⟨h1, v, h2, h3, h4⟩
    exact ⟨h1, v, (hb.block b (Array.getElem?_eq_some_iff.1 h2).1).trans h2, h3.kept ⟨hb.os, hb.tape, hb.output, hb.size, fun i hi _ => hb.block i hi⟩ (row := none) (by cases hv : v.ownBlock <;> simp), h4⟩
  exact h.imp one one
end Go.Proofs.YteoicjlhkaljbaaDoor.G

namespace Go.Proofs.YteoicjlhkaljbaaDoor.G
open Go.RowKit Go.Sort Go.Proofs.YteoicjlhkaljbaaDoorW.PrintWords Go.Proofs.YteoicjlhkaljbaaDoorW.PrintLast Go.Proofs.YteoicjlhkaljbaaDoorW.PrintMore
set_option linter.unusedVariables false
theorem dec_lib (n : Nat) : Lib.decDigits n = Pu.dec n := by
  induction n using Nat.strongRecOn with
  | ind n ih =>
    unfold Lib.decDigits Pu.dec
    by_cases h : n < 10
    · rw [dif_pos h, dif_pos h]
    · rw [dif_neg h, dif_neg h, ih (n / 10) (by omega)]
def strconv_Itoa_67.f (n : Int) : Option ByteArray := if 0 ≤ n ∧ n ≤ 1000000 then some ⟨(Pu.dec n.toNat).toArray⟩ else none
theorem below_growN (w : World) (k : Nat) (os : Array Obj) : Below w.heap.size w (grow (w.drewN k) os) :=
  ⟨rfl, rfl, rfl, by show w.heap.size ≤ (w.heap ++ os).size; rw [Array.size_append]; omega, fun j hj => by show (w.heap ++ os)[j]? = w.heap[j]?; rw [Array.getElem?_append_left hj]⟩
theorem strconv_Itoa_67.calls [ErrA] (a0 : Int) (r : ByteArray) (w : World) (hE : ErrOk [1] w) (h : strconv_Itoa_67.f a0 = some r) :
    Calls Tryd.prog 67 #[.int .i64 a0] w fun e w' => e = .returned (.string r) ∧ Below w.heap.size w w' := by
  unfold strconv_Itoa_67.f at h
  by_cases hn : 0 ≤ a0 ∧ a0 ≤ 1000000
  case neg => rw [if_neg hn] at h; exact absurd h (by simp)
  rw [if_pos hn] at h
  obtain rfl := Option.some.inj h
  refine (Tryd.strconv_Itoa a0 (by omega) (by omega) w (hE.1 (by decide))).mono fun e w' ⟨he, k, os, hw⟩ => ⟨?_, hw ▸ below_growN w k os⟩
  rw [he, Lib.itoa, if_neg (by omega), dec_lib]
end Go.Proofs.YteoicjlhkaljbaaDoor.G

namespace Go.Proofs.YteoicjlhkaljbaaDoor.G
open Go.RowKit Go.Proofs.YteoicjlhkaljbaaDoorW.PrintWords Go.Proofs.YteoicjlhkaljbaaDoorW.PrintLast Go.Proofs.YteoicjlhkaljbaaDoorW.PrintMore
set_option linter.unusedVariables false
def strings_Join.f (l : List ByteArray) (s : ByteArray) : Option ByteArray := if (Lib.join (l.map (·.data.toList)) s.data.toList).length ≤ 1000000000 ∧ l.length ≤ 1000000000 then some ⟨(Lib.join (l.map (·.data.toList)) s.data.toList).toArray⟩ else none
theorem add_off (b o j : Nat) : (⟨b, o, none⟩ : Addr).add j = ⟨b, o + j, none⟩ := by
  unfold Addr.add
  split <;> simp_all
theorem strings_Join.calls (A0 : Option Addr) (c0 : Nat) (l0 : List ByteArray) (a1 : ByteArray) (r : ByteArray) (w : World) (hr0 : Kd.C Kd.string w A0 l0.length l0) (hc0 : l0.length ≤ c0) (h : strings_Join.f l0 a1 = some r) :
    Calls Tryd.prog 69 #[.slice A0 l0.length c0, .string a1] w fun e w' => e = .returned (.string r) ∧ Below w.heap.size w w' := by
  unfold strings_Join.f at h
  split at h
  case isFalse => exact absurd h (by simp)
  case isTrue hn =>
  obtain rfl := Option.some.inj h
  cases l0 with
  | nil => exact (Tryd.strings_Join_none A0 c0 a1 w).mono fun e w' ⟨he, hw⟩ => ⟨he, hw ▸ Below.refl _ _⟩
  | cons x l =>
    obtain ⟨ad, rfl, h0⟩ := Kd.at_string hr0 0 (by omega) (by simp)
    have hcell : ∀ (j : Nat) y, (x :: l)[j]? = some y → w.cell? (ad.add j) = some (.string y) := by
      intro j y hy
      have hj : j < (x :: l).length := (List.getElem?_eq_some_iff.1 hy).1
      obtain ⟨ad', e, hc⟩ := Kd.at_string hr0 (j : Int) (by omega) (by omega)
      cases e
      rw [show ((j : Int)).toNat = j from rfl] at hc
      rw [hc]
      simp [rdOf, List.getD_eq_getElem?_getD, hy]
    obtain ⟨hsp, hlt⟩ : ad.spot = none ∧ ad.block < w.heap.size := by
      have h1 := hcell 0 x rfl
      have e0 : ad.add 0 = ad := by unfold Addr.add; simp
      rw [e0] at h1
      exact ⟨World.cell?_spot h1, World.block_lt_of_cell? w _ h1⟩
    obtain ⟨bk, o, sp⟩ := ad
    obtain rfl : sp = none := hsp
    exact Tryd.strings_Join bk o c0 (x :: l) a1 w (fun j y hy => add_off bk o j ▸ hcell j y hy) hlt (by omega) hc0 (by omega)
end Go.Proofs.YteoicjlhkaljbaaDoor.G

namespace Go.Proofs.YteoicjlhkaljbaaDoor.Pu
open Go.RowKit Go.Proofs.YteoicjlhkaljbaaDoorW.PrintWords Go.Proofs.YteoicjlhkaljbaaDoorW.PrintLast Go.Proofs.YteoicjlhkaljbaaDoor.G
set_option linter.unusedVariables false
set_option linter.unusedSimpArgs false
def lineV (r : S25) : ByteArray := if recOk r = true then ⟨(textOf r).toArray⟩ else ⟨#[]⟩
theorem join_four (a b c d : List UInt8) : Lib.join [a, b, c, d] [32] = a ++ 32 :: (b ++ 32 :: (c ++ 32 :: d)) := by
  simp [Lib.join, List.intercalate]
theorem sRecordText_ev (r : S25) (hr : Lens r) : Ev (fun k => spec_RecordText.f k r.f0 r.f1 r.f2 r.f3 r.f4 r.f5) (lineV r) := by
  unfold spec_RecordText.f lineV
  refine Ev.bind (sRecordValid_ev r hr) ?_
  by_cases h : recOk r = true
  · simp only [h, if_true]
    exact Ev.bind (text_ev r h) (Ev.now _)
  · have h' : recOk r = false := by simpa using h
    simp only [h', Bool.false_eq_true, if_false]
    exact Ev.now _
theorem lineV_list (r : S25) : (lineV r).toList = if recOk r = true then textOf r else [] := by
  unfold lineV
  split
  · exact toList_mk _
  · exact toList_mk []
end Go.Proofs.YteoicjlhkaljbaaDoor.Pu

namespace Go.Proofs.YteoicjlhkaljbaaDoor.Pu
open Go.RowKit Go.Proofs.YteoicjlhkaljbaaDoorW.PrintWords Go.Proofs.YteoicjlhkaljbaaDoorW.PrintLast Go.Proofs.YteoicjlhkaljbaaDoor.G
set_option linter.unusedVariables false
set_option linter.unusedSimpArgs false
abbrev Rec := S25
def tup (r : Rec) : RecR := (r.f0, r.f1, r.f2, r.f3, r.f4, r.f5, true)
/-- The one record with this line. -/
noncomputable def recV (s : List UInt8) : RecR := open Classical in if h : ∃ r : Rec, recOk r = true ∧ textOf r = s then tup h.choose else noRec
theorem recV_some {r : Rec} (h : recOk r = true) : recV (textOf r) = tup r := by
  unfold recV
  have hx : ∃ r' : Rec, recOk r' = true ∧ textOf r' = textOf r := ⟨r, h, rfl⟩
  rw [dif_pos hx]
  congr 1
  exact text_inj hx.choose_spec.1 h hx.choose_spec.2
theorem recV_none {s : List UInt8} (h : ∀ r : Rec, recOk r = true → textOf r ≠ s) : recV s = noRec := by
  unfold recV
  rw [dif_neg (fun ⟨r, h1, h2⟩ => h r h1 h2)]
theorem recOk_mk {a b : Nat} {h2 h4 : Bool} {l3 l5 : List Int} : recOk (⟨(a : Int), (b : Int), h2, l3, h4, l5⟩ : Rec) = (decide (a ≤ 99999) && decide (b ≤ 99999) && (partOk h2 l3 && partOk h4 l5)) := by
  unfold recOk rng
  simp only
  rw [decide_eq_true (show (0 : Int) ≤ (a : Int) by omega), decide_eq_true (show (0 : Int) ≤ (b : Int) by omega), Bool.true_and, Bool.true_and]
  rw [show decide ((a : Int) ≤ 99999) = decide (a ≤ 99999) from decide_eq_decide.2 (by omega), show decide ((b : Int) ≤ 99999) = decide (b ≤ 99999) from decide_eq_decide.2 (by omega)]
theorem split_text {r : Rec} (h : recOk r = true) : splitL (textOf r) = [dec r.f0.toNat, dec r.f1.toNat, partT r.f2 r.f3, partT r.f4 r.f5] := by
  obtain ⟨_, _, h2, h3, _, _⟩ := recOk_parts h
  unfold textOf
  rw [splitL_app (dec_no _), splitL_app (dec_no _), splitL_app (part_no _ _ h2), splitL_none (part_no _ _ h3)]
theorem recOk_part {r : Rec} (h : recOk r = true) : partOk r.f2 r.f3 = true ∧ partOk r.f4 r.f5 = true := by
  unfold recOk at h
  simp only [Bool.and_eq_true] at h
  exact h.2
theorem text_of_four {s a b c d : List UInt8} (h : splitL s = [a, b, c, d]) : s = a ++ 32 :: (b ++ 32 :: (c ++ 32 :: d)) := by
  have := (splitL_join s).1
  rw [h, join_four] at this
  exact this.symm
theorem rd_four (ws : List ByteArray) (a b c d : List UInt8) (h : ws.map ByteArray.toList = [a, b, c, d]) : ws.length = 4 ∧ (rdOf ByteArray.empty ws 0).toList = a ∧ (rdOf ByteArray.empty ws 1).toList = b ∧ (rdOf ByteArray.empty ws 2).toList = c ∧ (rdOf ByteArray.empty ws 3).toList = d := by
  match ws, h with
  | [x, y, z, u], h =>
    simp only [List.map_cons, List.map_nil, List.cons.injEq, and_true] at h
    exact ⟨rfl, h.1, h.2.1, h.2.2.1, h.2.2.2⟩
theorem piece_len {l p : List UInt8} (h : p ∈ splitL l) : p.length ≤ l.length := by
  induction l generalizing p with
  | nil => simp [splitL] at h; rw [h]; simp
  | cons c l ih =>
    unfold splitL at h
    split at h
    · rcases List.mem_cons.1 h with rfl | h
      · simp
      · have := ih h; simp only [List.length_cons]; omega
    · rcases List.mem_cons.1 h with rfl | h
      · cases hs : splitL l with
        | nil => exact absurd hs (splitL_ne l)
        | cons q qs => have := ih (p := q) (by rw [hs]; simp); simp only [List.headD_cons, List.length_cons]; omega
      · have := ih (List.mem_of_mem_tail h); simp only [List.length_cons]; omega
/-- The program. -/
theorem RecordOf_ev (s : ByteArray) (hs : s.size ≤ 10000000) : Ev (fun k => impl_RecordOf.f k s) (recV s.toList) := by
  have hl := toList_len s
  unfold impl_RecordOf.f strings_Split.f
  rw [if_pos ⟨by omega, by decide⟩]
  simp only [bindS]
  have hws := splitB_list s
  simp only [← toList_data] at hws
  generalize Lib.splitB ⟨#[32]⟩ 0 (Lib.countB s ⟨#[32]⟩) s = ws at hws
  by_cases h4 : ws.length = 4
  · simp only [if_pos h4]
    obtain ⟨a, b, c, d, hsp⟩ : ∃ a b c d, splitL s.toList = [a, b, c, d] := by
      rw [← hws]
      match ws, h4 with
      | [x, y, z, u], _ => exact ⟨_, _, _, _, rfl⟩
    obtain ⟨_, e0, e1, e2, e3⟩ := rd_four ws a b c d (hws.trans hsp)
    have hsz : ∀ p ∈ splitL s.toList, p.length ≤ 10000000 := fun p hp => Nat.le_trans (piece_len hp) (by omega)
    rw [hsp] at hsz
    have z0 : (rdOf ByteArray.empty ws 0).size ≤ 10000000 := by rw [← toList_len, e0]; exact hsz a (by simp)
    have z1 : (rdOf ByteArray.empty ws 1).size ≤ 10000000 := by rw [← toList_len, e1]; exact hsz b (by simp)
    have z2 : (rdOf ByteArray.empty ws 2).size ≤ 10000000 := by rw [← toList_len, e2]; exact hsz c (by simp)
    have z3 : (rdOf ByteArray.empty ws 3).size ≤ 10000000 := by rw [← toList_len, e3]; exact hsz d (by simp)
    have n0 := numberOf_ev _ z0
    have n1 := numberOf_ev _ z1
    have p2 := partOf_ev _ z2
    have p3 := partOf_ev _ z3
    rw [e0] at n0
    rw [e1] at n1
    rw [e2] at p2
    rw [e3] at p3
    refine Ev.bind n0 (Ev.bind n1 (Ev.bind p2 (Ev.bind p3 ?_)))
    have htx := text_of_four hsp
    by_cases hg : ((numI a).2 && (numI b).2 && (partI c).2.2 && (partI d).2.2) = true
    · simp only [Bool.and_eq_true] at hg
      obtain ⟨⟨⟨g0, g1⟩, g2⟩, g3⟩ := hg
      obtain ⟨m0, q0, l0, d0⟩ := numI_inv (l := a) (n := (numI a).1) (by rw [← g0])
      obtain ⟨m1, q1, l1, d1⟩ := numI_inv (l := b) (n := (numI b).1) (by rw [← g1])
      obtain ⟨t2, k2⟩ := partI_inv (w := c) (has := (partI c).1) (l := (partI c).2.1) (by rw [← g2])
      obtain ⟨t3, k3⟩ := partI_inv (w := d) (has := (partI d).1) (l := (partI d).2.1) (by rw [← g3])
      have hok : recOk (⟨(numI a).1, (numI b).1, (partI c).1, (partI c).2.1, (partI d).1, (partI d).2.1⟩ : Rec) = true := by
        rw [q0, q1, recOk_mk, decide_eq_true l0, decide_eq_true l1, k2, k3]
        rfl
      have htext : textOf (⟨(numI a).1, (numI b).1, (partI c).1, (partI c).2.1, (partI d).1, (partI d).2.1⟩ : Rec) = s.toList := by
        unfold textOf
        simp only
        rw [q0, q1, Int.toNat_natCast, Int.toNat_natCast, d0, d1, t2, t3]
        exact htx.symm
      have hL := recOk_len hok
      simp only [g0, g1, g2, g3, Bool.and_self, if_true]
      refine Ev.bind (RecordValid_ev (⟨(numI a).1, (numI b).1, (partI c).1, (partI c).2.1, (partI d).1, (partI d).2.1⟩ : Rec) ⟨by omega, by omega⟩) ?_
      rw [hok]
      simp only [if_true]
      rw [← htext, recV_some hok]
      exact Ev.now _
    · simp only [if_neg hg]
      rw [recV_none (fun r hr he => hg ?_)]
      · exact Ev.now _
      · have h2 := split_text hr
        rw [he, hsp] at h2
        simp only [List.cons.injEq, and_true] at h2
        obtain ⟨r0, r1, _⟩ := recOk_parts hr
        obtain ⟨pk2, pk3⟩ := recOk_part hr
        rw [h2.1, h2.2.1, h2.2.2.1, h2.2.2.2, numI_dec _ (by omega), numI_dec _ (by omega), partI_part pk2, partI_part pk3]
        rfl
  · simp only [if_neg h4]
    rw [recV_none (fun r hr he => h4 ?_)]
    · exact Ev.now _
    · have h2 := split_text hr
      rw [he, ← hws] at h2
      exact (rd_four ws _ _ _ _ h2).1
/-- The reference. -/
theorem sRecordOf_ev (s : ByteArray) (hs : s.size ≤ 10000000) : Ev (fun k => spec_RecordOf.f k s) (recV s.toList) := by
  have hl := toList_len s
  unfold spec_RecordOf.f
  obtain ⟨ws, hev, hws⟩ := cut_ends s hs
  refine Ev.bind hev ?_
  by_cases h4 : ws.length = 4
  · obtain ⟨a, b, c, d, hsp⟩ : ∃ a b c d, splitL s.toList = [a, b, c, d] := by
      rw [← hws]
      match ws, h4 with
      | [x, y, z, u], _ => exact ⟨_, _, _, _, rfl⟩
    obtain ⟨_, e0, e1, e2, e3⟩ := rd_four ws a b c d (hws.trans hsp)
    have hsz : ∀ p ∈ splitL s.toList, p.length ≤ 10000000 := fun p hp => Nat.le_trans (piece_len hp) (by omega)
    rw [hsp] at hsz
    have z0 : (rdOf ByteArray.empty ws 0).size ≤ 10000000 := by rw [← toList_len, e0]; exact hsz a (by simp)
    have z1 : (rdOf ByteArray.empty ws 1).size ≤ 10000000 := by rw [← toList_len, e1]; exact hsz b (by simp)
    have z2 : (rdOf ByteArray.empty ws 2).size ≤ 10000000 := by rw [← toList_len, e2]; exact hsz c (by simp)
    have z3 : (rdOf ByteArray.empty ws 3).size ≤ 10000000 := by rw [← toList_len, e3]; exact hsz d (by simp)
    have n0 := number_ev _ z0
    have n1 := number_ev _ z1
    have p2 := bytes41_ev _ z2
    have p3 := bytes41_ev _ z3
    rw [e0] at n0
    rw [e1] at n1
    rw [e2] at p2
    rw [e3] at p3
    simp only [h4, if_pos (show ((4 : Nat) : Int) = 4 from rfl), if_pos (show (0 : Int) < ((4 : Nat) : Int) by decide), if_pos (show (1 : Int) < ((4 : Nat) : Int) by decide), if_pos (show (2 : Int) < ((4 : Nat) : Int) by decide), if_pos (show (3 : Int) < ((4 : Nat) : Int) by decide)]
    refine Ev.bind n0 (Ev.bind n1 (Ev.bind p2 (Ev.bind p3 ?_)))
    rw [e2, e3]
    have hL : Lens (⟨numS a, numS b, c != [45], unhexS (c.drop 1), d != [45], unhexS (d.drop 1)⟩ : Rec) := by
      have h1 := unhexS_len _ (c.drop 1) (Nat.le_refl _)
      have h2 := unhexS_len _ (d.drop 1) (Nat.le_refl _)
      have h3 := hsz c (by simp)
      have h5 := hsz d (by simp)
      rw [List.length_drop] at h1 h2
      exact ⟨by dsimp only; omega, by dsimp only; omega⟩
    refine Ev.bind (sRecordText_ev _ hL) ?_
    rw [lineV_list]
    by_cases hok : recOk (⟨numS a, numS b, c != [45], unhexS (c.drop 1), d != [45], unhexS (d.drop 1)⟩ : Rec) = true
    · rw [if_pos hok]
      by_cases ht : textOf (⟨numS a, numS b, c != [45], unhexS (c.drop 1), d != [45], unhexS (d.drop 1)⟩ : Rec) = s.toList
      · simp only [if_pos ht]
        rw [← ht, recV_some hok]
        exact Ev.now _
      · simp only [if_neg ht]
        rw [recV_none (fun r hr he => ht ?_)]
        · exact Ev.now _
        · exact four_back hsp hr he
    · rw [if_neg hok]
      have hne : ¬ ([] : List UInt8) = s.toList := by
        intro e
        rw [← e] at hsp
        simp [splitL] at hsp
      simp only [if_neg hne]
      rw [recV_none (fun r hr he => hok ?_)]
      · exact Ev.now _
      · exact four_ok hsp hr he
  · simp only [if_neg (show ¬ (ws.length : Int) = 4 by omega)]
    rw [recV_none (fun r hr he => h4 ?_)]
    · exact Ev.now _
    · have h2 := split_text hr
      rw [he, ← hws] at h2
      exact (rd_four ws _ _ _ _ h2).1
where
  four_eq {s a b c d : List UInt8} (hsp : splitL s = [a, b, c, d]) {r : Rec} (hr : recOk r = true) (he : textOf r = s) : (⟨numS a, numS b, c != [45], unhexS (c.drop 1), d != [45], unhexS (d.drop 1)⟩ : Rec) = r := by
    have h2 := split_text hr
    rw [he, hsp] at h2
    simp only [List.cons.injEq, and_true] at h2
    obtain ⟨r0, r1, _⟩ := recOk_parts hr
    obtain ⟨pk2, pk3⟩ := recOk_part hr
    rw [h2.1, h2.2.1, h2.2.2.1, h2.2.2.2, numS_dec _ (by omega), numS_dec _ (by omega), (unhexS_part pk2).1, (unhexS_part pk2).2, (unhexS_part pk3).1, (unhexS_part pk3).2]
    cases r
    simp only at r0 r1 ⊢
    congr 1 <;> omega
  four_back {s a b c d : List UInt8} (hsp : splitL s = [a, b, c, d]) {r : Rec} (hr : recOk r = true) (he : textOf r = s) : textOf (⟨numS a, numS b, c != [45], unhexS (c.drop 1), d != [45], unhexS (d.drop 1)⟩ : Rec) = s := by rw [four_eq hsp hr he, he]
  four_ok {s a b c d : List UInt8} (hsp : splitL s = [a, b, c, d]) {r : Rec} (hr : recOk r = true) (he : textOf r = s) : recOk (⟨numS a, numS b, c != [45], unhexS (c.drop 1), d != [45], unhexS (d.drop 1)⟩ : Rec) = true := by rw [four_eq hsp hr he, hr]
end Go.Proofs.YteoicjlhkaljbaaDoor.Pu

namespace Go.Proofs.YteoicjlhkaljbaaDoor.Pu
open Go.RowKit Go.Proofs.YteoicjlhkaljbaaDoorW.PrintWords Go.Proofs.YteoicjlhkaljbaaDoorW.PrintLast Go.Proofs.YteoicjlhkaljbaaDoor.G
set_option linter.unusedVariables false
set_option linter.unusedSimpArgs false
theorem all_true {α} (l : List α) : l.all (fun _ => true) = true := List.all_eq_true.2 (fun _ _ => rfl)
theorem eqIntS_ev (l : List Int) (hl : l.length ≤ 9223372036854775807) : Ev (fun k => laws_eqIntS.f k l l) true := by
  unfold laws_eqIntS.f
  simp only [if_true]
  have := ev_all l hl (fun k i => laws_eqIntS.l0 k l l i) (fun k i => some true) (fun _ => true) true
    (fun k => by simp only [laws_eqIntS.l0]; rw [if_neg (by omega)])
    (fun k i h => by simp only [laws_eqIntS.l0]; rw [if_pos (by omega), if_pos (by omega), if_pos (by omega), if_true]; rfl)
    (fun i h => Ev.now _) l.length 0 (by omega) (by omega)
  rw [all_true] at this
  simpa using this
theorem eqRecord_ev (r : S25) (h : Lens r) : Ev (fun k => laws_eqRecord.f k r.f0 r.f1 r.f2 r.f3 r.f4 r.f5 r.f0 r.f1 r.f2 r.f3 r.f4 r.f5) true := by
  unfold laws_eqRecord.f
  simp only [if_true, bne_self_eq_false, Bool.false_eq_true, if_false]
  refine Ev.bind (eqIntS_ev _ h.1) ?_
  simp only [if_true]
  exact Ev.bind (eqIntS_ev _ h.2) (Ev.now _)
end Go.Proofs.YteoicjlhkaljbaaDoor.Pu

namespace Go.Proofs.YteoicjlhkaljbaaDoor.Pu
open Go.RowKit Go.Proofs.YteoicjlhkaljbaaDoorW.PrintWords Go.Proofs.YteoicjlhkaljbaaDoorW.PrintLast Go.Proofs.YteoicjlhkaljbaaDoor.G
set_option linter.unusedVariables false
set_option linter.unusedSimpArgs false
def marks (a : Int) (n : Nat) : List Int := (List.range n).map fun (i : Nat) => a + (i : Int)
theorem marks_len (a : Int) (n : Nat) : (marks a n).length = n := by simp [marks]
theorem marks_at (a : Int) (n i : Nat) (h : i < n) : rd (marks a n) (i : Int) = a + i := by
  rw [rdi_nat _ _ (by rw [marks_len]; exact h)]
  simp [marks]
theorem marks_succ (a : Int) (n : Nat) : marks a (n + 1) = marks a n ++ [a + (n : Int)] := by
  unfold marks
  rw [List.range_succ, List.map_append]
  rfl
theorem marks_set (a : Int) (l : List Int) (i : Nat) (h : i < l.length) : (marks a i ++ l.drop i).set i (a + (i : Int)) = marks a (i + 1) ++ l.drop (i + 1) := by
  rw [List.drop_eq_getElem_cons h, List.set_append_right _ _ (by rw [marks_len]; omega), marks_len, Nat.sub_self, List.set_cons_zero, marks_succ, List.append_assoc]
  rfl
theorem mark_loop (l : List Int) (a : Int) (hl : l.length ≤ 4000000000) (h0 : 0 ≤ a) (h1 : a ≤ 4000000000000) : ∀ d i, l.length - i = d → i ≤ l.length → Ev (fun k => laws_markIntS.l0 k (marks a i ++ l.drop i) (a + (i : Int)) (i : Int)) (a + (l.length : Int), marks a l.length) := by
  intro d
  induction d with
  | zero =>
    intro i hd hi
    obtain rfl : i = l.length := by omega
    refine Ev.step (fun k => by rw [laws_markIntS.l0]) ?_
    rw [List.drop_length, List.append_nil, marks_len]
    simp only [if_neg (show ¬ ((l.length : Int) < (l.length : Int)) by omega)]
    exact Ev.now _
  | succ d ih =>
    intro i hd hi
    have hlt : i < l.length := by omega
    refine Ev.step (fun k => by rw [laws_markIntS.l0]) ?_
    have hlen : (marks a i ++ l.drop i).length = l.length := by rw [List.length_append, marks_len, List.length_drop]; omega
    simp only [hlen, if_pos (show (i : Int) < (l.length : Int) by omega), if_pos (show (0 : Int) ≤ (i : Int) by omega), Int.toNat_natCast, marks_set a l i hlt, w64 (a := a + (i : Int) + 1) (by omega) (by omega), w64 (a := (i : Int) + 1) (by omega) (by omega)]
    have := ih (i + 1) (by omega) (by omega)
    rw [show a + ((i + 1 : Nat) : Int) = a + (i : Int) + 1 by omega, show ((i + 1 : Nat) : Int) = (i : Int) + 1 by omega] at this
    exact this
theorem markIntS_ev (l : List Int) (a : Int) (hl : l.length ≤ 4000000000) (h0 : 0 ≤ a) (h1 : a ≤ 4000000000000) : Ev (fun k => laws_markIntS.f k l a) (a + (l.length : Int), marks a l.length) := by
  unfold laws_markIntS.f
  have := mark_loop l a hl h0 h1 l.length 0 (by omega) (by omega)
  simpa [marks] using this
theorem held_loop (a : Int) (n : Nat) (hl : n ≤ 4000000000) (h0 : 0 ≤ a) (h1 : a ≤ 4000000000000) : ∀ d i, n - i = d → i ≤ n → Ev (fun k => laws_heldIntS.l0 k (marks a n) (a + (i : Int)) (i : Int)) (a + (n : Int)) := by
  intro d
  induction d with
  | zero =>
    intro i hd hi
    obtain rfl : i = n := by omega
    refine Ev.step (fun k => by rw [laws_heldIntS.l0]) ?_
    rw [marks_len]
    simp only [if_neg (show ¬ ((i : Int) < (i : Int)) by omega)]
    exact Ev.now _
  | succ d ih =>
    intro i hd hi
    have hlt : i < n := by omega
    refine Ev.step (fun k => by rw [laws_heldIntS.l0]) ?_
    rw [marks_len, marks_at a n i hlt]
    simp only [if_pos (show (i : Int) < (n : Int) by omega), if_pos (show (0 : Int) ≤ (i : Int) by omega), if_true, w64 (a := a + (i : Int) + 1) (by omega) (by omega), w64 (a := (i : Int) + 1) (by omega) (by omega)]
    have := ih (i + 1) (by omega) (by omega)
    rw [show a + ((i + 1 : Nat) : Int) = a + (i : Int) + 1 by omega, show ((i + 1 : Nat) : Int) = (i : Int) + 1 by omega] at this
    exact this
theorem heldIntS_ev (a : Int) (n : Nat) (hl : n ≤ 4000000000) (h0 : 0 ≤ a) (h1 : a ≤ 4000000000000) : Ev (fun k => laws_heldIntS.f k (marks a n) a) (a + (n : Int)) := by
  unfold laws_heldIntS.f
  have := held_loop a n hl h0 h1 n 0 (by omega) (by omega)
  simpa using this
end Go.Proofs.YteoicjlhkaljbaaDoor.Pu

