/- A text of seat YtahenocndacjeaaDoor: what the law FnCutJoin needs of this repo's texts (by pack.py). Not trusted: Lean checks it. -/
import Derived.Test.YtahenocndacjeaaDoorKFnCutJoin4
import Derived.Test.YtahenocndacjeaaDoorProg
import Derived.WalkKit
import Derived.LaidEql
import Derived.Stop.Asserts
import Derived.RowKitTokens
import Derived.LoopN
import Derived.KernelRfl
namespace Go.Proofs.YtahenocndacjeaaDoor.G
open Go.RowKit Go.Proofs.YtahenocndacjeaaDoorW.PrintWords Go.Proofs.YtahenocndacjeaaDoorW.PrintLast Go.Proofs.YtahenocndacjeaaDoorW.PrintMore
attribute [local go_sem] max2_int min2_int max_two min_two max_three min_three max_four min_four   -- for this text's walks alone
set_option linter.unusedVariables false
set_option linter.unusedSimpArgs false

def spec_l91Batch.j0 : Nat → List Int → Int → Bool → Bool → Int → Int → Int → List (S41) → Option (Bool × Bool × Int × Int × Int × (List (S41)) × Int)
 | 0, _, _, _, _, _, _, _, _ => none
 | k + 1, x1000, x1001, x177000, x177001, x177002, x177003, x177004, x177005 => (spec_l6Rd_pick.f k x1000 x1001 40).bind fun bt200 => (if bt200.1 = 0 then ((some (([(-1), 1, 100] : List Int) : List Int)).bind fun y202 => ((spec_l6Rd_pick.f k x1000 bt200.2 3).bind fun bt205 => (if 0 ≤ bt205.1 then (if bt205.1 < (y202.length : Int) then (some (x177000, x177001, x177002, rd y202 bt205.1, x177004, x177005, bt205.2)) else (none)) else (none)))) else (if bt200.1 = 1 then (if 0 < (x177005.length : Int) then (if x177005.length < 1759218604441 then (some (x177000, x177001, x177002, x177003, x177004, (x177005 ++ [(⟨(rd_T41 x177005 0).f0, (rd_T41 x177005 0).f1, (rd_T41 x177005 0).f2, (rd_T41 x177005 0).f3, (rd_T41 x177005 0).f4, (rd_T41 x177005 0).f5⟩ : S41)]), bt200.2)) else (none)) else (none)) else (if bt200.1 = 2 then (some (x177000, !x177001, x177002, x177003, x177004, x177005, bt200.2)) else (some (x177000, x177001, x177002, x177003, x177004, x177005, bt200.2)))))
def spec_l91Batch.f (k : Nat) (s0_0 : List Int) (s0_1 : Int) (a1 : Int) : Option (Bool × Bool × Int × Int × Int × (List (S41)) × Int) := (spec_l6Rd_pick.f k s0_0 s0_1 2).bind fun bt170 => ((spec_l91Records.f k s0_0 bt170.2 a1 4).bind fun bt172 => ((spec_l6Rd_pick.f k s0_0 bt172.2 3).bind fun bt177 => (if bt177.1 = 0 then ((spec_l6Rd_pick.f k s0_0 bt177.2 3).bind fun bt179 => ((spec_l6Rd_pick.f k s0_0 bt179.2 3).bind fun bt181 => ((spec_l6Rd_pick.f k s0_0 bt181.2 5).bind fun bt183 => ((spec_l6Rd_pick.f k s0_0 bt183.2 3).bind fun bt185 => (if bt185.1 = 0 then ((spec_l6Rd_pick.f k s0_0 bt185.2 200).bind fun bt187 => ((spec_l6Rd_pick.f k s0_0 bt187.2 2).bind fun bt192 => (spec_l91Batch.j0 k s0_0 bt192.2 (bt170.1 == 0) true bt179.1 bt181.1 bt183.1 (([(⟨a1, bt187.1, false, (([] : List Int)), true, (([bt192.1] : List Int))⟩ : S41)] : List (S41)))))) else (spec_l91Batch.j0 k s0_0 bt185.2 (bt170.1 == 0) false bt179.1 bt181.1 bt183.1 bt172.1)))))) else (spec_l91Batch.j0 k s0_0 bt177.2 (bt170.1 == 0) false 255 0 0 bt172.1))))
def spec_l91Batch.T13 : Bool × List (List Nat × List Nat) := (true, [([], []), ([0], [0]), ([], []), ([2], [2]), ([3], [3]), ([4], [4]), ([5], [5]), ([1, 6], [1, 6]), ([0, 1, 2, 3, 4, 5, 6, 7], []), ([8, 7, 7, 0, 1, 2, 3, 4, 5, 6, 7], [7, 8])])
def spec_l91Batch.B13 : List Nat := [0, 1, 0, 4, 12, 28, 60, 127, 255, 511]
theorem spec_l91Batch.tab13 : rtab .any (opsOf Tryd.f23 13) = spec_l91Batch.T13 := by kernel_rfl
theorem spec_l91Batch.bits13 : waitsOk spec_l91Batch.T13.2 spec_l91Batch.B13 = true := by kernel_rfl
set_option maxHeartbeats 8000000 in
set_option maxRecDepth 100000 in
theorem spec_l91Batch.calls (k : Nat) (g : Nat) (s0_0 : List Int) (s0_1 : Int) (a1 : Int) (r1 : Bool) (r2 : Bool) (r3 : Int) (r4 : Int) (r5 : Int) (r6 : List (S41)) (r7 : Int) (w0 w : World) (hI : IsS72 w0 w g s0_0 s0_1) (hB : Below w0.heap.size w0 w) (h : spec_l91Batch.f k s0_0 s0_1 a1 = some (r1, r2, r3, r4, r5, r6, r7)) :
  Calls Tryd.prog 23 #[.pointer (some ⟨g, 0, none⟩), .int .i64 a1] w fun e w' => ∃ v5_ : Value, e = .returned (.agg #[.bool r1, .bool r2, .int .i64 r3, .int .i64 r4, .int .i64 r5, v5_]) ∧ Kd.N k41 41 w' w.heap.size (fun k_ => (w.heap.size ≤ k_)) v5_ r6 ∧ IsS72 w0 w' g s0_0 r7 ∧ Below w0.heap.size w0 w' ∧ KeepBut w w' g none := by
 have hu25 := Tryd.underlying25
 have hu41 := Tryd.underlying41
 have HI0 := Aside0.mk hI
 have HK := Aside0.mk (KeepBut.refl w g none)
 have HL := Aside0.mk hB.size
 clear hI
 have HW0 := Aside0.mk hB.size
 have HB := Aside0.mk hB
 clear hB
 have H : ((spec_l6Rd_pick.f k s0_0 s0_1 2).bind fun bt170 => ((spec_l91Records.f k s0_0 bt170.2 a1 4).bind fun bt172 => ((spec_l6Rd_pick.f k s0_0 bt172.2 3).bind fun bt177 => (if bt177.1 = 0 then ((spec_l6Rd_pick.f k s0_0 bt177.2 3).bind fun bt179 => ((spec_l6Rd_pick.f k s0_0 bt179.2 3).bind fun bt181 => ((spec_l6Rd_pick.f k s0_0 bt181.2 5).bind fun bt183 => ((spec_l6Rd_pick.f k s0_0 bt183.2 3).bind fun bt185 => (if bt185.1 = 0 then ((spec_l6Rd_pick.f k s0_0 bt185.2 200).bind fun bt187 => ((spec_l6Rd_pick.f k s0_0 bt187.2 2).bind fun bt192 => (spec_l91Batch.j0 k s0_0 bt192.2 (bt170.1 == 0) true bt179.1 bt181.1 bt183.1 (([(⟨a1, bt187.1, false, (([] : List Int)), true, (([bt192.1] : List Int))⟩ : S41)] : List (S41)))))) else (spec_l91Batch.j0 k s0_0 bt185.2 (bt170.1 == 0) false bt179.1 bt181.1 bt183.1 bt172.1)))))) else (spec_l91Batch.j0 k s0_0 bt177.2 (bt170.1 == 0) false 255 0 0 bt172.1))))) = some (r1, r2, r3, r4, r5, r6, r7) := h
 clear h
 replace H := tbe H
 obtain ⟨⟨t170, t171⟩, A3, H⟩ := H
 dsimp only at H
 replace H := tbe H
 obtain ⟨⟨t172, t175⟩, A4, H⟩ := H
 dsimp only at H
 replace H := tbe H
 obtain ⟨⟨t177, t178⟩, A5, H⟩ := H
 dsimp only at H
 have HC6 := Aside0.mk H
 clear H
 go_enter Tryd.func23, Tryd.ntmps23
 go_upto_if 15 with (first | ((with_reducible refine gate_dst (N := 4) rfl ?_); refine box_event ?hg (N := 4) ?hd (cs := #[.bool false, .bool false, .int .i64 0, .int .i64 0, .int .i64 0, .slice none 0 0]) (t := 25) ?hr ?_; (case hd => rfl); (case hg => rfl); (case hr => first | (go_simp; done) | (go_simp; rfl)); intro gb169 hg w7 hbox hb; replace HB := tBs HB hb; have BK169 := Aside0.mk (hbox); have GW169 := Aside0.mk ((by rw [hg]; exact (keep_size (w := w) (g := g) (row := none) zk) : w.heap.size ≤ gb169)); have GE169 := Aside0.mk ((Nat.le_trans HW0.out (by rw [hg]; exact (keep_size (w := w) (g := g) (row := none) zk) : w.heap.size ≤ gb169) : w0.heap.size ≤ gb169)); replace HK := tKb HK hb; have NB0_169 := Aside0.mk ((by rw [hg]; exact Nat.ne_of_lt (IsS72.lt (show IsS72 w0 _ g s0_0 s0_1 from zi72)) : g ≠ gb169)); have NB169_0 := Aside0.mk ((by rw [hg]; exact Nat.ne_of_gt (IsS72.lt (show IsS72 w0 _ g s0_0 s0_1 from zi72)) : gb169 ≠ g)); replace HI0 := tIb72 HI0 hb; clear hb hbox hg) | ((with_reducible refine gate_callee (f := 24) rfl ?_); refine goesL_ (some 7) rfl rfl Tryd.func24 (by kernel_rfl) rfl #[.pointer (some ⟨g, 0, none⟩), .int .i64 2] rfl tq ?_; (with_reducible refine (spec_l6Rd_pick.calls k g s0_0 s0_1 2 t170 t171 w0 _ ?side1 ?side2 A3.out).mono ?_); (case side1 => exact zi72); (case side2 => exact zb); rintro e w8 ⟨rfl, hi, hb, hk⟩; refine ⟨_, rfl, ?_⟩; replace BK169 := tBk BK169 hk NB169_0; replace HK := tKt HK hk; replace HB := Aside0.mk (hb); replace HI0 := Aside0.mk (hi); (try clear hb); (try clear hb2); (try clear hk); (try clear hi)) | ((with_reducible refine gate_callee (f := 25) rfl ?_); refine goesL_ (some 11) rfl rfl Tryd.func25 (by kernel_rfl) rfl #[.pointer (some ⟨g, 0, none⟩), .int .i64 a1, .int .i64 4] rfl tq ?_; (with_reducible refine (spec_l91Records.calls k g s0_0 t171 a1 4 t172 t175 w0 _ ?side1 ?side2 A4.out).mono ?_); (case side1 => exact zi72); (case side2 => exact zb); rintro e w9 ⟨v173, rfl, ho0, hi, hb, hk⟩; have u_v173 := tsv Tryd.prog v173 ho0; refine ⟨_, rfl, ?_⟩; have HO174 := Aside0.mk (Kd.N_lower (Kd.N_mono (ok' := fun k_ => (w.heap.size ≤ k_) ∧ k_ ≠ gb169 ∧ k_ ≠ g) (Kd.S_N (Kd.S_bound ho0)) (fun k_ hk_ => ⟨(Nat.le_trans (keep_size (w := w) (g := g) (row := none) zk) hk_.2.1), (tfB BK169 k_ hk_.2.1), (IsS72.fresh zi72 k_ hk_.2.1)⟩)) (keep_size (w := w) (g := g) (row := none) zk)); replace BK169 := tBk BK169 hk NB169_0; replace HK := tKt HK hk; replace HB := Aside0.mk (hb); replace HI0 := Aside0.mk (hi); (try clear hb); (try clear hb2); (try clear hk); (try clear hi); (try clear ho0); obtain ⟨Ao10, co10, eo10⟩ := Kd.N_slice HO174.out; subst eo10) | ((with_reducible refine gate_dst (N := 5) rfl ?_); refine box_event ?hg (N := 5) ?hd (cs := #[.bool false, .bool false, .int .i64 0, .int .i64 0, .int .i64 0, .slice none 0 0]) (t := 25) ?hr ?_; (case hd => rfl); (case hg => rfl); (case hr => first | (go_simp; done) | (go_simp; rfl)); intro gb176 hg w11 hbox hb; replace HO174 := tNB HO174 hg hb; replace HB := tBs HB hb; have BK176 := Aside0.mk (hbox); have GW176 := Aside0.mk ((by rw [hg]; exact (keep_size (w := w) (g := g) (row := none) zk) : w.heap.size ≤ gb176)); have GE176 := Aside0.mk ((Nat.le_trans HW0.out (by rw [hg]; exact (keep_size (w := w) (g := g) (row := none) zk) : w.heap.size ≤ gb176) : w0.heap.size ≤ gb176)); replace HK := tKb HK hb; have NB169_176 := tlt BK169 hg; have NB176_169 := tgt BK169 hg; replace BK169 := tBb BK169 hb; have NB0_176 := Aside0.mk ((by rw [hg]; exact Nat.ne_of_lt (IsS72.lt (show IsS72 w0 _ g s0_0 t175 from zi72)) : g ≠ gb176)); have NB176_0 := Aside0.mk ((by rw [hg]; exact Nat.ne_of_gt (IsS72.lt (show IsS72 w0 _ g s0_0 t175 from zi72)) : gb176 ≠ g)); replace HI0 := tIb72 HI0 hb; clear hb hbox hg; have hnb12 := NB176_169.out; have hnc12 := NB169_176.out; have hnb13 := NB176_0.out; have hnc13 := NB0_176.out; obtain ⟨hcz14_0, hcz14_1, hcz14_2, hcz14_3, hcz14_4, hcz14_5, hfz14_0, hfz14_1, hfz14_2, hfz14_3, hfz14_4, hfz14_5⟩ := cells6 BK176.out) | ((with_reducible refine gate_callee (f := 24) rfl ?_); refine goesL_ (some 14) rfl rfl Tryd.func24 (by kernel_rfl) rfl #[.pointer (some ⟨g, 0, none⟩), .int .i64 3] rfl tq ?_; (with_reducible refine (spec_l6Rd_pick.calls k g s0_0 t175 3 t177 t178 w0 _ ?side1 ?side2 A5.out).mono ?_); (case side1 => exact zi72); (case side2 => exact zb); rintro e w15 ⟨rfl, hi, hb, hk⟩; refine ⟨_, rfl, ?_⟩; replace BK169 := tBk BK169 hk NB169_0; replace HO174 := tNk HO174 hk; replace BK176 := tBq (o' := .cells #[.bool (t170 == 0), .bool false, .int .i64 255, .int .i64 0, .int .i64 0, .slice Ao10 t172.length co10] 25 (0, 0)) BK176 hk NB176_0; replace HK := tKt HK hk; replace HB := Aside0.mk (hb); replace HI0 := Aside0.mk (hi); (try clear hb); (try clear hb2); (try clear hk); (try clear hi)))
 (try simp only [Act.put, List.setIfInBounds_toArray, List.set_cons_zero, List.set_cons_succ])
 go_cut [] (fun wc => ∃ (kq : Nat) (x1001_5 : Int) (x177001_5 : Bool) (x177002_5 : Int) (x177003_5 : Int) (x177004_5 : Int) (x177005_5 : List (S41)) (u177005 : Value), Aside0 (spec_l91Batch.j0 kq s0_0 x1001_5 (t170 == 0) x177001_5 x177002_5 x177003_5 x177004_5 x177005_5 = some (r1, r2, r3, r4, r5, r6, r7)) ∧ Aside0 (kq ≤ k) ∧ Aside0 (Kd.N k41 41 wc w.heap.size (fun k_ => (w.heap.size ≤ k_) ∧ k_ ≠ gb169 ∧ k_ ≠ gb176 ∧ k_ ≠ g) u177005 x177005_5) ∧ Aside0 (wc.heap[gb169]? = some (.cells #[.bool false, .bool false, .int .i64 0, .int .i64 0, .int .i64 0, (.slice none 0 0)] 25 (0, 0))) ∧ Aside0 (wc.heap[gb176]? = some (.cells #[.bool (t170 == 0), .bool x177001_5, .int .i64 x177002_5, .int .i64 x177003_5, .int .i64 x177004_5, u177005] 25 (0, 0))) ∧ Aside0 (IsS72 w0 wc g s0_0 x1001_5) ∧ Aside0 (KeepBut w wc g none) ∧ Aside0 (Below w0.heap.size w0 wc))
 case first =>
  have H := HC6.out
  clear HC6
  by_cases c16 : t177 = 0
  ·rw [if_pos c16] at H
   have c16b0 : (t177 == 0) = true := beq_iff_eq.mpr c16
   have c16b1 : (t177 != 0) = false := bne_eq_false_iff_eq.mpr c16
   clear c16
   (first | rw [c16b0] | (simp only [i64_w, i32_w]; rw [c16b0]) | skip)
   replace H := tbe H
   obtain ⟨⟨t179, t180⟩, A17, H⟩ := H
   dsimp only at H
   replace H := tbe H
   obtain ⟨⟨t181, t182⟩, A18, H⟩ := H
   dsimp only at H
   replace H := tbe H
   obtain ⟨⟨t183, t184⟩, A19, H⟩ := H
   dsimp only at H
   replace H := tbe H
   obtain ⟨⟨t185, t186⟩, A20, H⟩ := H
   dsimp only at H
   by_cases c21 : t185 = 0
   ·rw [if_pos c21] at H
    have c21b0 : (t185 == 0) = true := beq_iff_eq.mpr c21
    have c21b1 : (t185 != 0) = false := bne_eq_false_iff_eq.mpr c21
    clear c21
    replace H := tbe H
    obtain ⟨⟨t187, t188⟩, A22, H⟩ := H
    dsimp only at H
    obtain ⟨y189, hy189⟩ : ∃ y_ : List Int, y_ = (([] : List Int)) := ⟨_, rfl⟩
    replace H : ((spec_l6Rd_pick.f k s0_0 t188 2).bind fun bt192 => (spec_l91Batch.j0 k s0_0 bt192.2 (t170 == 0) true t179 t181 t183 (([(⟨a1, t187, false, y189, true, (([bt192.1] : List Int))⟩ : S41)] : List (S41))))) = some (r1, r2, r3, r4, r5, r6, r7) := by first | (rw [hy189]; with_reducible exact H) | (have H2_ := (Option.bind_some _ _).symm.trans H; rw [hy189]; with_reducible exact H2_) | (have H2_ := (Option.bind_some _ _).symm.trans H; with_reducible exact H2_) | with_reducible exact H | (rw [hy189]; exact H) | exact H
    have Ny189 := Aside0.mk hy189
    clear hy189
    replace H := tbe H
    obtain ⟨⟨t192, t193⟩, A23, H⟩ := H
    dsimp only at H
    obtain ⟨y194, hy194⟩ : ∃ y_ : List Int, y_ = (([t192] : List Int)) := ⟨_, rfl⟩
    replace H : (spec_l91Batch.j0 k s0_0 t193 (t170 == 0) true t179 t181 t183 (([(⟨a1, t187, false, y189, true, y194⟩ : S41)] : List (S41)))) = some (r1, r2, r3, r4, r5, r6, r7) := by first | (rw [hy194]; with_reducible exact H) | (have H2_ := (Option.bind_some _ _).symm.trans H; rw [hy194]; with_reducible exact H2_) | (have H2_ := (Option.bind_some _ _).symm.trans H; with_reducible exact H2_) | with_reducible exact H | (rw [hy194]; exact H) | exact H
    have Ny194 := Aside0.mk hy194
    clear hy194
    obtain ⟨y197, hy197⟩ : ∃ y_ : List (S41), y_ = (([(⟨a1, t187, false, y189, true, y194⟩ : S41)] : List (S41))) := ⟨_, rfl⟩
    replace H : (spec_l91Batch.j0 k s0_0 t193 (t170 == 0) true t179 t181 t183 y197) = some (r1, r2, r3, r4, r5, r6, r7) := by first | (rw [hy197]; with_reducible exact H) | (have H2_ := (Option.bind_some _ _).symm.trans H; rw [hy197]; with_reducible exact H2_) | (have H2_ := (Option.bind_some _ _).symm.trans H; with_reducible exact H2_) | with_reducible exact H | (rw [hy197]; exact H) | exact H
    have Ny197 := Aside0.mk hy197
    clear hy197
    have H' := Aside0.mk H
    clear H
    go_wp2_with (first | ((with_reducible refine gate_callee (f := 24) rfl ?_); refine goesL_ (some 17) rfl rfl Tryd.func24 (by kernel_rfl) rfl #[.pointer (some ⟨g, 0, none⟩), .int .i64 3] rfl tq ?_; (with_reducible refine (spec_l6Rd_pick.calls k g s0_0 t178 3 t179 t180 w0 _ ?side1 ?side2 A17.out).mono ?_); (case side1 => exact zi72); (case side2 => exact zb); rintro e w24 ⟨rfl, hi, hb, hk⟩; refine ⟨_, rfl, ?_⟩; replace BK169 := tBk BK169 hk NB169_0; replace HO174 := tNk HO174 hk; replace BK176 := tBk BK176 hk NB176_0; replace HK := tKt HK hk; replace HB := Aside0.mk (hb); replace HI0 := Aside0.mk (hi); (try clear hb); (try clear hb2); (try clear hk); (try clear hi); have hnb25 := NB176_169.out; have hnc25 := NB169_176.out; have hnb26 := NB176_0.out; have hnc26 := NB0_176.out; obtain ⟨hcz27_0, hcz27_1, hcz27_2, hcz27_3, hcz27_4, hcz27_5, hfz27_0, hfz27_1, hfz27_2, hfz27_3, hfz27_4, hfz27_5⟩ := cells6 BK176.out) | ((with_reducible refine gate_callee (f := 24) rfl ?_); refine goesL_ (some 20) rfl rfl Tryd.func24 (by kernel_rfl) rfl #[.pointer (some ⟨g, 0, none⟩), .int .i64 3] rfl tq ?_; (with_reducible refine (spec_l6Rd_pick.calls k g s0_0 t180 3 t181 t182 w0 _ ?side1 ?side2 A18.out).mono ?_); (case side1 => exact zi72); (case side2 => exact zb); rintro e w28 ⟨rfl, hi, hb, hk⟩; refine ⟨_, rfl, ?_⟩; replace BK169 := tBk BK169 hk NB169_0; replace HO174 := tNk HO174 hk; replace BK176 := tBq (o' := .cells #[.bool (t170 == 0), .bool false, .int .i64 t179, .int .i64 0, .int .i64 0, .slice Ao10 t172.length co10] 25 (0, 0)) BK176 hk NB176_0; replace HK := tKt HK hk; replace HB := Aside0.mk (hb); replace HI0 := Aside0.mk (hi); (try clear hb); (try clear hb2); (try clear hk); (try clear hi); obtain ⟨hcz29_0, hcz29_1, hcz29_2, hcz29_3, hcz29_4, hcz29_5, hfz29_0, hfz29_1, hfz29_2, hfz29_3, hfz29_4, hfz29_5⟩ := cells6 BK176.out) | ((with_reducible refine gate_callee (f := 24) rfl ?_); refine goesL_ (some 23) rfl rfl Tryd.func24 (by kernel_rfl) rfl #[.pointer (some ⟨g, 0, none⟩), .int .i64 5] rfl tq ?_; (with_reducible refine (spec_l6Rd_pick.calls k g s0_0 t182 5 t183 t184 w0 _ ?side1 ?side2 A19.out).mono ?_); (case side1 => exact zi72); (case side2 => exact zb); rintro e w30 ⟨rfl, hi, hb, hk⟩; refine ⟨_, rfl, ?_⟩; replace BK169 := tBk BK169 hk NB169_0; replace HO174 := tNk HO174 hk; replace BK176 := tBq (o' := .cells #[.bool (t170 == 0), .bool false, .int .i64 t179, .int .i64 t181, .int .i64 0, .slice Ao10 t172.length co10] 25 (0, 0)) BK176 hk NB176_0; replace HK := tKt HK hk; replace HB := Aside0.mk (hb); replace HI0 := Aside0.mk (hi); (try clear hb); (try clear hb2); (try clear hk); (try clear hi); obtain ⟨hcz31_0, hcz31_1, hcz31_2, hcz31_3, hcz31_4, hcz31_5, hfz31_0, hfz31_1, hfz31_2, hfz31_3, hfz31_4, hfz31_5⟩ := cells6 BK176.out) | ((with_reducible refine gate_callee (f := 24) rfl ?_); refine goesL_ (some 26) rfl rfl Tryd.func24 (by kernel_rfl) rfl #[.pointer (some ⟨g, 0, none⟩), .int .i64 3] rfl tq ?_; (with_reducible refine (spec_l6Rd_pick.calls k g s0_0 t184 3 t185 t186 w0 _ ?side1 ?side2 A20.out).mono ?_); (case side1 => exact zi72); (case side2 => exact zb); rintro e w32 ⟨rfl, hi, hb, hk⟩; refine ⟨_, rfl, ?_⟩; replace BK169 := tBk BK169 hk NB169_0; replace HO174 := tNk HO174 hk; replace BK176 := tBq (o' := .cells #[.bool (t170 == 0), .bool false, .int .i64 t179, .int .i64 t181, .int .i64 t183, .slice Ao10 t172.length co10] 25 (0, 0)) BK176 hk NB176_0; replace HK := tKt HK hk; replace HB := Aside0.mk (hb); replace HI0 := Aside0.mk (hi); (try clear hb); (try clear hb2); (try clear hk); (try clear hi); obtain ⟨hcz33_0, hcz33_1, hcz33_2, hcz33_3, hcz33_4, hcz33_5, hfz33_0, hfz33_1, hfz33_2, hfz33_3, hfz33_4, hfz33_5⟩ := cells6 BK176.out) | ((with_reducible refine gate_callee (f := 24) rfl ?_); refine goesL_ (some 31) rfl rfl Tryd.func24 (by kernel_rfl) rfl #[.pointer (some ⟨g, 0, none⟩), .int .i64 200] rfl tq ?_; (with_reducible refine (spec_l6Rd_pick.calls k g s0_0 t186 200 t187 t188 w0 _ ?side1 ?side2 A22.out).mono ?_); (case side1 => exact zi72); (case side2 => exact zb); rintro e w34 ⟨rfl, hi, hb, hk⟩; refine ⟨_, rfl, ?_⟩; replace BK169 := tBk BK169 hk NB169_0; replace HO174 := tNk HO174 hk; replace BK176 := tBq (o' := .cells #[.bool (t170 == 0), .bool true, .int .i64 t179, .int .i64 t181, .int .i64 t183, .slice Ao10 t172.length co10] 25 (0, 0)) BK176 hk NB176_0; replace HK := tKt HK hk; replace HB := Aside0.mk (hb); replace HI0 := Aside0.mk (hi); (try clear hb); (try clear hb2); (try clear hk); (try clear hi)) | ((with_reducible refine gate_dst (N := 32) rfl ?_); refine Kd.R_lit (Kd.int .i64) _ 3 ?hg (N := 32) ?hd (xs := ([] : List Int)) (inner := []) (ok := fun _ => True) (okp := fun _ => True) ?hr ?hp (fun _ hk => hk) trivial (Below.refl _ _) (Nat.le_refl _) (by simp) ?_; (case hd => rfl); (case hg => rfl); (case hr => first | (go_simp; done) | (go_simp; rfl)); (case hp => exact (Reps.none _ _)); intro v190 w35 ho36 hb hg_ hnew_; clear hg_ hnew_; (first | rw [← Ny189.out] at ho36 | (simp only [Int.reduceToNat] at ho36; rw [← Ny189.out] at ho36)); replace HO174 := Aside0.mk (Kd.N_elder' (tN HO174.out) (Kd.R_base ho36) hb); have HO191 := Aside0.mk (Kd.R_lower (Kd.R_newM (M := fun k_ => (w.heap.size ≤ k_)) ho36 (keep_size (w := w) (g := g) (row := none) zk) (fun k_ h_ => h_)) (keep_size (w := w) (g := g) (row := none) zk)); replace HI0 := tIb72 HI0 hb; replace BK169 := tBb BK169 hb; replace BK176 := tBb BK176 hb; replace HK := tKb HK hb; replace HB := tBs HB hb; clear hb ho36) | ((with_reducible refine gate_callee (f := 24) rfl ?_); refine goesL_ (some 34) rfl rfl Tryd.func24 (by kernel_rfl) rfl #[.pointer (some ⟨g, 0, none⟩), .int .i64 2] rfl tq ?_; (with_reducible refine (spec_l6Rd_pick.calls k g s0_0 t188 2 t192 t193 w0 _ ?side1 ?side2 A23.out).mono ?_); (case side1 => exact zi72); (case side2 => exact zb); rintro e w37 ⟨rfl, hi, hb, hk⟩; refine ⟨_, rfl, ?_⟩; replace BK169 := tBk BK169 hk NB169_0; replace HO174 := tNk HO174 hk; replace BK176 := tBk BK176 hk NB176_0; replace HO191 := tRp72 HO191 HI0 hk; replace HK := tKt HK hk; replace HB := Aside0.mk (hb); replace HI0 := Aside0.mk (hi); (try clear hb); (try clear hb2); (try clear hk); (try clear hi)) | ((with_reducible refine gate_dst (N := 35) rfl ?_); refine Kd.R_lit (Kd.int .i64) _ 3 ?hg (N := 35) ?hd (xs := ([t192] : List Int)) (inner := [.int .i64 t192]) (ok := fun _ => True) (okp := fun _ => True) ?hr ?hp (fun _ hk => hk) trivial (Below.refl _ _) (Nat.le_refl _) (by simp) ?_; (case hd => rfl); (case hg => rfl); (case hr => first | (go_simp; done) | (go_simp; rfl)); (case hp => exact (Reps.one (show Kd.M (Kd.int .i64) _ _ _ t192 [.int .i64 t192] from rfl) (Reps.none _ _))); intro v195 w38 ho39 hb hg_ hnew_; clear hg_ hnew_; (first | rw [← Ny194.out] at ho39 | (simp only [Int.reduceToNat] at ho39; rw [← Ny194.out] at ho39)); replace HO174 := Aside0.mk (Kd.N_elder' (tN HO174.out) (Kd.R_base ho39) hb); have HO196 := Aside0.mk (Kd.R_lower (Kd.R_new' (Kd.R_newM (M := fun k_ => (w.heap.size ≤ k_)) ho39 (keep_size (w := w) (g := g) (row := none) zk) (fun k_ h_ => h_)) (Kd.R_lt (tR HO191.out))) (keep_size (w := w) (g := g) (row := none) zk)); replace HO191 := Aside0.mk (Kd.R_elder' (tR HO191.out) (Kd.R_base ho39) hb); replace HI0 := tIb72 HI0 hb; replace BK169 := tBb BK169 hb; replace BK176 := tBb BK176 hb; replace HK := tKb HK hb; replace HB := tBs HB hb; clear hb ho39; obtain ⟨Ao40, co40, eo40⟩ := Kd.R_slice HO196.out; subst eo40; obtain ⟨Ao41, co41, eo41⟩ := Kd.R_slice HO191.out; subst eo41) | ((with_reducible refine gate_dst (N := 37) rfl ?_); refine Kd.N_lit k41 _ 41 ?hg (N' := 37) ?hd (xs := ([(⟨a1, t187, false, y189, true, y194⟩ : S41)] : List (S41))) (inner := [.int .i64 a1, .int .i64 t187, .bool false, .slice Ao41 y189.length co41, .bool true, .slice Ao40 y194.length co40]) (ok := (fun k_ => (w.heap.size ≤ k_) ∧ some k_ ≠ (.slice Ao10 t172.length co10 : Value).ownBlock ∧ k_ ≠ gb169 ∧ k_ ≠ gb176 ∧ k_ ≠ g)) (okp := (fun k_ => (w.heap.size ≤ k_) ∧ some k_ ≠ (.slice Ao10 t172.length co10 : Value).ownBlock ∧ k_ ≠ gb169 ∧ k_ ≠ gb176 ∧ k_ ≠ g)) ?hr ?hp (fun _ hk => hk) ((show ∀ k_, w38.heap.size ≤ k_ → (fun k_ => (w.heap.size ≤ k_) ∧ some k_ ≠ (.slice Ao10 t172.length co10 : Value).ownBlock ∧ k_ ≠ gb169 ∧ k_ ≠ gb176 ∧ k_ ≠ g) k_ from fun k_ hk => ⟨(Nat.le_trans (keep_size (w := w) (g := g) (row := none) zk) hk), tfr HO174 k_ hk, tfB BK169 k_ hk, tfB BK176 k_ hk, IsS72.fresh zi72 k_ hk⟩) _ (Nat.le_refl _)) (Below.refl _ _) (Nat.le_refl _) (by simp) ?_; (case hd => rfl); (case hg => rfl); (case hr => first | (go_simp; done) | (go_simp; rfl)); (case hp => exact (Reps.c6 (show Kd.FK k41 _ _ (⟨a1, t187, false, y189, true, y194⟩ : S41) [.int .i64 a1, .int .i64 t187, .bool false, .slice Ao41 y189.length co41, .bool true, .slice Ao40 y194.length co40] from (k41_mkF _ _ (⟨a1, t187, false, y189, true, y194⟩ : S41) (Kd.R_reads' (Kd.R_mono (ok' := (fun k_ => (w.heap.size ≤ k_) ∧ some k_ ≠ (.slice Ao10 t172.length co10 : Value).ownBlock ∧ k_ ≠ gb169 ∧ k_ ≠ gb176 ∧ k_ ≠ g)) (IsS72.apart HI0.out (Kd.R_types (Kd.R_types (Kd.R_apart' (HO191.out) (Kd.N_typed HO174.out) (by decide)) BK169.out (by decide)) BK176.out (by decide)) (by decide)) (fun k_ hk => ⟨hk.1.1.1.1.1.1, ⟨hk.1.1.1.2, ⟨hk.1.1.2, ⟨hk.1.2, hk.2⟩⟩⟩⟩))).2.1 (Kd.R_F (Kd.R_mono (ok' := (fun k_ => (w.heap.size ≤ k_) ∧ some k_ ≠ (.slice Ao10 t172.length co10 : Value).ownBlock ∧ k_ ≠ gb169 ∧ k_ ≠ gb176 ∧ k_ ≠ g)) (IsS72.apart HI0.out (Kd.R_types (Kd.R_types (Kd.R_apart' (HO191.out) (Kd.N_typed HO174.out) (by decide)) BK169.out (by decide)) BK176.out (by decide)) (by decide)) (fun k_ hk => ⟨hk.1.1.1.1.1.1, ⟨hk.1.1.1.2, ⟨hk.1.1.2, ⟨hk.1.2, hk.2⟩⟩⟩⟩))) (Kd.R_reads' (Kd.R_mono (ok' := (fun k_ => (w.heap.size ≤ k_) ∧ some k_ ≠ (.slice Ao10 t172.length co10 : Value).ownBlock ∧ k_ ≠ gb169 ∧ k_ ≠ gb176 ∧ k_ ≠ g)) (IsS72.apart HI0.out (Kd.R_types (Kd.R_types (Kd.R_apart' (HO196.out) (Kd.N_typed HO174.out) (by decide)) BK169.out (by decide)) BK176.out (by decide)) (by decide)) (fun k_ hk => ⟨hk.1.1.1.1.1.1, ⟨hk.1.1.1.2, ⟨hk.1.1.2, ⟨hk.1.2, hk.2⟩⟩⟩⟩))).2.1 (Kd.R_F (Kd.R_mono (ok' := (fun k_ => (w.heap.size ≤ k_) ∧ some k_ ≠ (.slice Ao10 t172.length co10 : Value).ownBlock ∧ k_ ≠ gb169 ∧ k_ ≠ gb176 ∧ k_ ≠ g)) (IsS72.apart HI0.out (Kd.R_types (Kd.R_types (Kd.R_apart' (HO196.out) (Kd.N_typed HO174.out) (by decide)) BK169.out (by decide)) BK176.out (by decide)) (by decide)) (fun k_ hk => ⟨hk.1.1.1.1.1.1, ⟨hk.1.1.1.2, ⟨hk.1.1.2, ⟨hk.1.2, hk.2⟩⟩⟩⟩))))) (Reps.none _ _))); intro v198 w42 ho43 hb hg_ hnew_; clear hg_ hnew_; (first | rw [← Ny197.out] at ho43 | (simp only [Int.reduceToNat] at ho43; rw [← Ny197.out] at ho43)); replace HO174 := tNe HO174 ho43 hb; have HO199 := Aside0.mk (Kd.N_lower ho43 (keep_size (w := w) (g := g) (row := none) zk)); replace HI0 := tIb72 HI0 hb; replace BK169 := tBb BK169 hb; replace BK176 := tBb BK176 hb; replace HK := tKb HK hb; replace HB := tBs HB hb; clear HO191 HO196; clear hb ho43; obtain ⟨Ao44, co44, eo44⟩ := Kd.N_slice HO199.out; subst eo44; obtain ⟨hcz45_0, hcz45_1, hcz45_2, hcz45_3, hcz45_4, hcz45_5, hfz45_0, hfz45_1, hfz45_2, hfz45_3, hfz45_4, hfz45_5⟩ := cells6 BK176.out))
    go_meet
    case rel => exact ⟨_, (t193), (true), (t179), (t181), (t183), (y197), (.slice Ao44 y197.length co44), H', ⟨by first | omega | exact Nat.le_refl _⟩, ⟨tNm HO199.out⟩, ⟨tH BK169.out⟩, ⟨tP BK176.out⟩, ⟨zi72⟩, ⟨zk⟩, ⟨zb⟩⟩
   ·rw [if_neg c21] at H
    have c21b0 : (t185 == 0) = false := beq_eq_false_iff_ne.mpr c21
    have c21b1 : (t185 != 0) = true := bne_iff_ne.mpr c21
    have H' := Aside0.mk H
    clear H
    go_wp2_with (first | ((with_reducible refine gate_callee (f := 24) rfl ?_); refine goesL_ (some 17) rfl rfl Tryd.func24 (by kernel_rfl) rfl #[.pointer (some ⟨g, 0, none⟩), .int .i64 3] rfl tq ?_; (with_reducible refine (spec_l6Rd_pick.calls k g s0_0 t178 3 t179 t180 w0 _ ?side1 ?side2 A17.out).mono ?_); (case side1 => exact zi72); (case side2 => exact zb); rintro e w46 ⟨rfl, hi, hb, hk⟩; refine ⟨_, rfl, ?_⟩; replace BK169 := tBk BK169 hk NB169_0; replace HO174 := tNk HO174 hk; replace BK176 := tBk BK176 hk NB176_0; replace HK := tKt HK hk; replace HB := Aside0.mk (hb); replace HI0 := Aside0.mk (hi); (try clear hb); (try clear hb2); (try clear hk); (try clear hi); have hnb47 := NB176_169.out; have hnc47 := NB169_176.out; have hnb48 := NB176_0.out; have hnc48 := NB0_176.out; obtain ⟨hcz49_0, hcz49_1, hcz49_2, hcz49_3, hcz49_4, hcz49_5, hfz49_0, hfz49_1, hfz49_2, hfz49_3, hfz49_4, hfz49_5⟩ := cells6 BK176.out) | ((with_reducible refine gate_callee (f := 24) rfl ?_); refine goesL_ (some 20) rfl rfl Tryd.func24 (by kernel_rfl) rfl #[.pointer (some ⟨g, 0, none⟩), .int .i64 3] rfl tq ?_; (with_reducible refine (spec_l6Rd_pick.calls k g s0_0 t180 3 t181 t182 w0 _ ?side1 ?side2 A18.out).mono ?_); (case side1 => exact zi72); (case side2 => exact zb); rintro e w50 ⟨rfl, hi, hb, hk⟩; refine ⟨_, rfl, ?_⟩; replace BK169 := tBk BK169 hk NB169_0; replace HO174 := tNk HO174 hk; replace BK176 := tBq (o' := .cells #[.bool (t170 == 0), .bool false, .int .i64 t179, .int .i64 0, .int .i64 0, .slice Ao10 t172.length co10] 25 (0, 0)) BK176 hk NB176_0; replace HK := tKt HK hk; replace HB := Aside0.mk (hb); replace HI0 := Aside0.mk (hi); (try clear hb); (try clear hb2); (try clear hk); (try clear hi); obtain ⟨hcz51_0, hcz51_1, hcz51_2, hcz51_3, hcz51_4, hcz51_5, hfz51_0, hfz51_1, hfz51_2, hfz51_3, hfz51_4, hfz51_5⟩ := cells6 BK176.out) | ((with_reducible refine gate_callee (f := 24) rfl ?_); refine goesL_ (some 23) rfl rfl Tryd.func24 (by kernel_rfl) rfl #[.pointer (some ⟨g, 0, none⟩), .int .i64 5] rfl tq ?_; (with_reducible refine (spec_l6Rd_pick.calls k g s0_0 t182 5 t183 t184 w0 _ ?side1 ?side2 A19.out).mono ?_); (case side1 => exact zi72); (case side2 => exact zb); rintro e w52 ⟨rfl, hi, hb, hk⟩; refine ⟨_, rfl, ?_⟩; replace BK169 := tBk BK169 hk NB169_0; replace HO174 := tNk HO174 hk; replace BK176 := tBq (o' := .cells #[.bool (t170 == 0), .bool false, .int .i64 t179, .int .i64 t181, .int .i64 0, .slice Ao10 t172.length co10] 25 (0, 0)) BK176 hk NB176_0; replace HK := tKt HK hk; replace HB := Aside0.mk (hb); replace HI0 := Aside0.mk (hi); (try clear hb); (try clear hb2); (try clear hk); (try clear hi); obtain ⟨hcz53_0, hcz53_1, hcz53_2, hcz53_3, hcz53_4, hcz53_5, hfz53_0, hfz53_1, hfz53_2, hfz53_3, hfz53_4, hfz53_5⟩ := cells6 BK176.out) | ((with_reducible refine gate_callee (f := 24) rfl ?_); refine goesL_ (some 26) rfl rfl Tryd.func24 (by kernel_rfl) rfl #[.pointer (some ⟨g, 0, none⟩), .int .i64 3] rfl tq ?_; (with_reducible refine (spec_l6Rd_pick.calls k g s0_0 t184 3 t185 t186 w0 _ ?side1 ?side2 A20.out).mono ?_); (case side1 => exact zi72); (case side2 => exact zb); rintro e w54 ⟨rfl, hi, hb, hk⟩; refine ⟨_, rfl, ?_⟩; replace BK169 := tBk BK169 hk NB169_0; replace HO174 := tNk HO174 hk; replace BK176 := tBq (o' := .cells #[.bool (t170 == 0), .bool false, .int .i64 t179, .int .i64 t181, .int .i64 t183, .slice Ao10 t172.length co10] 25 (0, 0)) BK176 hk NB176_0; replace HK := tKt HK hk; replace HB := Aside0.mk (hb); replace HI0 := Aside0.mk (hi); (try clear hb); (try clear hb2); (try clear hk); (try clear hi)))
    go_meet
    case rel => exact ⟨_, (t186), (false), (t179), (t181), (t183), (t172), (.slice Ao10 t172.length co10), H', ⟨by first | omega | exact Nat.le_refl _⟩, ⟨tNm HO174.out⟩, ⟨tH BK169.out⟩, ⟨tH BK176.out⟩, ⟨zi72⟩, ⟨zk⟩, ⟨zb⟩⟩
  ·rw [if_neg c16] at H
   have c16b0 : (t177 == 0) = false := beq_eq_false_iff_ne.mpr c16
   have c16b1 : (t177 != 0) = true := bne_iff_ne.mpr c16
   (first | rw [c16b0] | (simp only [i64_w, i32_w]; rw [c16b0]) | skip)
   have H' := Aside0.mk H
   clear H
   go_wp2
   go_meet
   case rel => exact ⟨_, (t178), (false), (255), (0), (0), (t172), (.slice Ao10 t172.length co10), H', ⟨by first | omega | exact Nat.le_refl _⟩, ⟨tNm HO174.out⟩, ⟨tH BK169.out⟩, ⟨tH BK176.out⟩, ⟨zi72⟩, ⟨zk⟩, ⟨zb⟩⟩
 case rest =>
  clear HC6
  try clear hcz14_0; try clear hcz14_1; try clear hcz14_2; try clear hcz14_3; try clear hcz14_4; try clear hcz14_5; try clear hfz14_0; try clear hfz14_1; try clear hfz14_2; try clear hfz14_3; try clear hfz14_4; try clear hfz14_5
  obtain ⟨kq, x1001_5, x177001_5, x177002_5, x177003_5, x177004_5, x177005_5, u177005, HA, HJ5, HO_177005, BK169, BK176, HI0, HK, HB⟩ := hcut
  cases kq with
  | zero => exact absurd HA.out (by simp [spec_l91Batch.j0])
  | succ kj5 =>
   have H := HA.out
   clear HA
   simp only [spec_l91Batch.j0] at H
   replace H := tbe H
   obtain ⟨⟨t200, t201⟩, A55, H⟩ := H
   dsimp only at H
   by_cases c56 : t200 = 0
   ·rw [if_pos c56] at H
    have c56b0 : (t200 == 0) = true := beq_iff_eq.mpr c56
    have c56b1 : (t200 != 0) = false := bne_eq_false_iff_eq.mpr c56
    clear c56
    obtain ⟨y202, hy202⟩ : ∃ y_ : List Int, y_ = (([(-1), 1, 100] : List Int)) := ⟨_, rfl⟩
    replace H : ((spec_l6Rd_pick.f kj5 s0_0 t201 3).bind fun bt205 => (if 0 ≤ bt205.1 then (if bt205.1 < (y202.length : Int) then (some ((t170 == 0), x177001_5, x177002_5, rd y202 bt205.1, x177004_5, x177005_5, bt205.2)) else (none)) else (none))) = some (r1, r2, r3, r4, r5, r6, r7) := by first | (rw [hy202]; with_reducible exact H) | (have H2_ := (Option.bind_some _ _).symm.trans H; rw [hy202]; with_reducible exact H2_) | (have H2_ := (Option.bind_some _ _).symm.trans H; with_reducible exact H2_) | with_reducible exact H | (rw [hy202]; exact H) | exact H
    have Ny202 := Aside0.mk hy202
    clear hy202
    replace H := tbe H
    obtain ⟨⟨t205, t206⟩, A57, H⟩ := H
    dsimp only at H
    by_cases c58 : 0 ≤ t205
    ·rw [if_pos c58] at H
     have c58b0 : decide (0 ≤ t205) = true := decide_eq_true c58
     clear c58
     by_cases c59 : t205 < (y202.length : Int)
     ·rw [if_pos c59] at H
      have c59b0 : decide (t205 < (y202.length : Int)) = true := decide_eq_true c59
      clear c59
      simp only [Option.some.injEq, Prod.mk.injEq] at H
      obtain ⟨rfl, rfl, rfl, rfl, rfl, rfl, rfl⟩ := H
      go_wp2_with (first | ((with_reducible refine gate_callee (f := 24) rfl ?_); refine goesL_ (some 40) rfl rfl Tryd.func24 (by kernel_rfl) rfl #[.pointer (some ⟨g, 0, none⟩), .int .i64 40] rfl tq ?_; (with_reducible refine (spec_l6Rd_pick.calls kj5 g s0_0 x1001_5 40 t200 t201 w0 _ ?side1 ?side2 A55.out).mono ?_); (case side1 => exact zi72); (case side2 => exact zb); rintro e w60 ⟨rfl, hi, hb, hk⟩; refine ⟨_, rfl, ?_⟩; replace HO_177005 := tNk HO_177005 hk; replace BK169 := tBk BK169 hk NB169_0; replace BK176 := tBk BK176 hk NB176_0; replace HK := tKt HK hk; replace HB := Aside0.mk (hb); replace HI0 := Aside0.mk (hi); (try clear hb); (try clear hb2); (try clear hk); (try clear hi)) | ((with_reducible refine gate_dst (N := 43) rfl ?_); refine Kd.R_lit (Kd.int .i64) _ 3 ?hg (N := 43) ?hd (xs := ([(-1), 1, 100] : List Int)) (inner := [.int .i64 (-1), .int .i64 1, .int .i64 100]) (ok := fun _ => True) (okp := fun _ => True) ?hr ?hp (fun _ hk => hk) trivial (Below.refl _ _) (Nat.le_refl _) (by simp) ?_; (case hd => rfl); (case hg => rfl); (case hr => first | (go_simp; done) | (go_simp; rfl)); (case hp => exact (Reps.one (show Kd.M (Kd.int .i64) _ _ _ (-1) [.int .i64 (-1)] from rfl) (Reps.one (show Kd.M (Kd.int .i64) _ _ _ 1 [.int .i64 1] from rfl) (Reps.one (show Kd.M (Kd.int .i64) _ _ _ 100 [.int .i64 100] from rfl) (Reps.none _ _))))); intro v203 w61 ho62 hb hg_ hnew_; clear hg_ hnew_; (first | rw [← Ny202.out] at ho62 | (simp only [Int.reduceToNat] at ho62; rw [← Ny202.out] at ho62)); replace HO_177005 := Aside0.mk (Kd.N_elder' (tN HO_177005.out) (Kd.R_base ho62) hb); have HO204 := Aside0.mk (Kd.R_lower (Kd.R_newM (M := fun k_ => (w.heap.size ≤ k_)) ho62 (keep_size (w := w) (g := g) (row := none) zk) (fun k_ h_ => h_)) (keep_size (w := w) (g := g) (row := none) zk)); replace BK169 := tBb BK169 hb; replace BK176 := tBb BK176 hb; replace HI0 := tIb72 HI0 hb; replace HK := tKb HK hb; replace HB := tBs HB hb; clear hb ho62) | ((with_reducible refine gate_callee (f := 24) rfl ?_); refine goesL_ (some 45) rfl rfl Tryd.func24 (by kernel_rfl) rfl #[.pointer (some ⟨g, 0, none⟩), .int .i64 3] rfl tq ?_; (with_reducible refine (spec_l6Rd_pick.calls kj5 g s0_0 t201 3 t205 t206 w0 _ ?side1 ?side2 A57.out).mono ?_); (case side1 => exact zi72); (case side2 => exact zb); rintro e w63 ⟨rfl, hi, hb, hk⟩; refine ⟨_, rfl, ?_⟩; replace HO_177005 := tNk HO_177005 hk; replace BK169 := tBk BK169 hk NB169_0; replace BK176 := tBk BK176 hk NB176_0; replace HO204 := tRp72 HO204 HI0 hk; replace HK := tKt HK hk; replace HB := Aside0.mk (hb); replace HI0 := Aside0.mk (hi); (try clear hb); (try clear hb2); (try clear hk); (try clear hi); obtain ⟨Ao64, co64, eo64⟩ := Kd.R_slice HO204.out; subst eo64; have p207 : 0 ≤ (t205 : Int) := td; have q207 : t205 < (y202.length : Int) := td; obtain ⟨ad207, e207, hx207_0⟩ := Kd.at_int (Kd.R_reads' HO204.out).2.2 t205 p207 q207; cases e207; replace p207 := eq_true p207; replace q207 := eq_true q207; have hnb65 := NB176_169.out; have hnc65 := NB169_176.out; have hnb66 := NB176_0.out; have hnc66 := NB0_176.out; obtain ⟨hcz67_0, hcz67_1, hcz67_2, hcz67_3, hcz67_4, hcz67_5, hfz67_0, hfz67_1, hfz67_2, hfz67_3, hfz67_4, hfz67_5⟩ := cells6 BK176.out; have hnb68 := NB169_0.out; have hnc68 := NB0_169.out; obtain ⟨hcz69_0, hcz69_1, hcz69_2, hcz69_3, hcz69_4, hcz69_5, hfz69_0, hfz69_1, hfz69_2, hfz69_3, hfz69_4, hfz69_5⟩ := cells6 BK169.out; obtain ⟨Ao70, co70, eo70⟩ := Kd.N_slice HO_177005.out; subst eo70))
      refine bodyPost_ret (results_cell_row rfl _ _ gb169 25 #[.bool (t170 == 0), .bool x177001_5, .int .i64 x177002_5, .int .i64 (rd y202 t205), .int .i64 x177004_5, .slice Ao70 x177005_5.length co70] (0, 0) _ rfl (tP BK169.out) Tryd.underlying25 rfl (by kernel_rfl)) rfl ?_
      exact ⟨_, by first | rfl | (simp [errW_none, errW_some] <;> rfl) | (simp [*, errW_none, errW_some] <;> rfl), by (with_reducible repeat (first | apply Kd.N_alloc | apply Kd.N_drewN | apply Kd.N_drew)); exact Kd.N_mono (Kd.N_far (p := ⟨gb169, 5, none⟩) (Kd.N_far (p := ⟨gb169, 4, none⟩) (Kd.N_far (p := ⟨gb169, 3, none⟩) (Kd.N_far (p := ⟨gb169, 2, none⟩) (Kd.N_far (p := ⟨gb169, 1, none⟩) (Kd.N_far (p := ⟨gb169, 0, none⟩) (Kd.N_far (p := ⟨gb176, 3, none⟩) (Kd.N_mono (Kd.N_mono HO_177005.out (fun k_ hk => (⟨hk, hk.1.2.2.1⟩ : _ ∧ k_ ≠ gb176))) (fun k_ hk => (⟨hk, hk.1.1.2.1⟩ : _ ∧ k_ ≠ gb169))) (fun _ hk => hk.1.2) (.int .i64 (rd y202 t205))) (fun _ hk => hk.2) (.bool (t170 == 0))) (fun _ hk => hk.2) (.bool x177001_5)) (fun _ hk => hk.2) (.int .i64 x177002_5)) (fun _ hk => hk.2) (.int .i64 (rd y202 t205))) (fun _ hk => hk.2) (.int .i64 x177004_5)) (fun _ hk => hk.2) (.slice Ao70 x177005_5.length co70)) (fun _ hk => hk.1.1.1.1), zi72, zb, zk⟩
     ·rw [if_neg c59] at H
      exact absurd H (by simp)
    ·rw [if_neg c58] at H
     exact absurd H (by simp)
   ·rw [if_neg c56] at H
    have c56b0 : (t200 == 0) = false := beq_eq_false_iff_ne.mpr c56
    have c56b1 : (t200 != 0) = true := bne_iff_ne.mpr c56
    by_cases c71 : t200 = 1
    ·rw [if_pos c71] at H
     have c71b0 : (t200 == 1) = true := beq_iff_eq.mpr c71
     have c71b1 : (t200 != 1) = false := bne_eq_false_iff_eq.mpr c71
     clear c71
     by_cases c72 : 0 < (x177005_5.length : Int)
     ·rw [if_pos c72] at H
      have c72b0 : decide (0 < (x177005_5.length : Int)) = true := decide_eq_true c72
      have c72b1 : decide (0 < x177005_5.length) = true := decide_eq_true (by omega)
      clear c72
      by_cases c73 : x177005_5.length < 1759218604441
      ·rw [if_pos c73] at H
       have LMc73 := Aside0.mk c73
       clear c73
       obtain ⟨y209, hy209⟩ : ∃ y_ : List (S41), y_ = (x177005_5 ++ [(⟨(rd_T41 x177005_5 0).f0, (rd_T41 x177005_5 0).f1, (rd_T41 x177005_5 0).f2, (rd_T41 x177005_5 0).f3, (rd_T41 x177005_5 0).f4, (rd_T41 x177005_5 0).f5⟩ : S41)]) := ⟨_, rfl⟩
       replace H : (some ((t170 == 0), x177001_5, x177002_5, x177003_5, x177004_5, y209, t201)) = some (r1, r2, r3, r4, r5, r6, r7) := by first | (rw [hy209]; with_reducible exact H) | (have H2_ := (Option.bind_some _ _).symm.trans H; rw [hy209]; with_reducible exact H2_) | (have H2_ := (Option.bind_some _ _).symm.trans H; with_reducible exact H2_) | with_reducible exact H | (rw [hy209]; exact H) | exact H
       have Ny209 := Aside0.mk hy209
       clear hy209
       simp only [Option.some.injEq, Prod.mk.injEq] at H
       obtain ⟨rfl, rfl, rfl, rfl, rfl, rfl, rfl⟩ := H
       try go_wp2_with (first | ((with_reducible refine gate_callee (f := 24) rfl ?_); refine goesL_ (some 40) rfl rfl Tryd.func24 (by kernel_rfl) rfl #[.pointer (some ⟨g, 0, none⟩), .int .i64 40] rfl tq ?_; (with_reducible refine (spec_l6Rd_pick.calls kj5 g s0_0 x1001_5 40 t200 t201 w0 _ ?side1 ?side2 A55.out).mono ?_); (case side1 => exact zi72); (case side2 => exact zb); rintro e w74 ⟨rfl, hi, hb, hk⟩; refine ⟨_, rfl, ?_⟩; replace HO_177005 := tNk HO_177005 hk; replace BK169 := tBk BK169 hk NB169_0; replace BK176 := tBk BK176 hk NB176_0; replace HK := tKt HK hk; replace HB := Aside0.mk (hb); replace HI0 := Aside0.mk (hi); (try clear hb); (try clear hb2); (try clear hk); (try clear hi)))
       replace HO_177005 := Aside0.mk (Kd.N_drew HO_177005.out)
       replace BK169 := Aside0.mk (blk_drew BK169.out)
       replace BK176 := Aside0.mk (blk_drew BK176.out)
       replace HI0 := Aside0.mk (IsS72.drew HI0.out)
       replace HK := Aside0.mk (keep_drew HK.out)
       replace HB := Aside0.mk (below_drew1 HB.out)
       obtain ⟨Ao76, co76, eo76⟩ := Kd.N_slice HO_177005.out
       (first | subst eo76 | (injection eo76 with f1_ f2_ f3_; have f4_ := f1_.symm; have f5_ := f3_.symm; clear f1_ f2_ f3_; subst f4_; subst f5_))
       have p208 : 0 ≤ (0 : Int) := (by omega)
       have q208 : 0 < (x177005_5.length : Int) := td
       obtain ⟨ad208, A208_3, c208_3, A208_5, c208_5, e208, hx208_0, hx208_1, hx208_2, hx208_3, hx208_4, hx208_5, hl208_3, hi208_3, hl208_5, hi208_5⟩ := at_T41 (Kd.N_reads' HO_177005.out).2.2 0 p208 q208
       cases e208
       obtain ⟨ce208, hce208, hMe208, hcc208⟩ := Kd.N_get HO_177005.out z41 0 p208 (by first | exact q208 | exact td | (have e_ := (Kd.N_reads' HO_177005.out).1; omega))
       obtain ⟨ua208_3, uc208_3, ua208_5, uc208_5, rfl, ul208_3, ge208_3, ul208_5, ge208_5⟩ := k41_openF hMe208
       have hv208_3 := hcc208 3 _ rfl
       rw [add_field _ _ 3 (by omega)] at hv208_3
       replace hv208_3 := Option.some.inj (hv208_3.symm.trans hx208_3)
       injection hv208_3 with hva_ hvn_ hvc_
       rw [hva_] at ge208_3
       rw [hvc_] at ul208_3
       have HL208_3 := Aside0.mk (show Kd.V (Kd.int .i64) 3 _ w.heap.size _ _ ((rd_T41 x177005_5 0).f3) from Kd.V_mk ul208_3 ge208_3)
       clear hva_ hvn_ hvc_ ge208_3 ul208_3
       have hv208_5 := hcc208 5 _ rfl
       rw [add_field _ _ 5 (by omega)] at hv208_5
       replace hv208_5 := Option.some.inj (hv208_5.symm.trans hx208_5)
       injection hv208_5 with hva_ hvn_ hvc_
       rw [hva_] at ge208_5
       rw [hvc_] at ul208_5
       have HL208_5 := Aside0.mk (show Kd.V (Kd.int .i64) 3 _ w.heap.size _ _ ((rd_T41 x177005_5 0).f5) from Kd.V_mk ul208_5 ge208_5)
       clear hva_ hvn_ hvc_ ge208_5 ul208_5
       clear hcc208 hce208
       have qi208 : (0 < x177005_5.length) = True := eq_true (by omega)
       (try rw [show ((0 : Int)).toNat = 0 from rfl] at hx208_0)
       (try rw [show 0 * 6 = 0 from rfl] at hx208_0)
       (try rw [Addr.add_zero'] at hx208_0)
       (try rw [show ((0 : Int)).toNat = 0 from rfl] at hx208_1)
       (try rw [show 0 * 6 = 0 from rfl] at hx208_1)
       (try rw [Addr.add_zero'] at hx208_1)
       (try rw [show ((0 : Int)).toNat = 0 from rfl] at hx208_2)
       (try rw [show 0 * 6 = 0 from rfl] at hx208_2)
       (try rw [Addr.add_zero'] at hx208_2)
       (try rw [show ((0 : Int)).toNat = 0 from rfl] at hx208_3)
       (try rw [show 0 * 6 = 0 from rfl] at hx208_3)
       (try rw [Addr.add_zero'] at hx208_3)
       (try rw [show ((0 : Int)).toNat = 0 from rfl] at hx208_4)
       (try rw [show 0 * 6 = 0 from rfl] at hx208_4)
       (try rw [Addr.add_zero'] at hx208_4)
       (try rw [show ((0 : Int)).toNat = 0 from rfl] at hx208_5)
       (try rw [show 0 * 6 = 0 from rfl] at hx208_5)
       (try rw [Addr.add_zero'] at hx208_5)
       have HR208_3 := Aside0.mk hi208_3
       have HC208_3 := Aside0.mk hl208_3
       clear hi208_3 hl208_3
       have HR208_5 := Aside0.mk hi208_5
       have HC208_5 := Aside0.mk hl208_5
       clear hi208_5 hl208_5
       replace p208 := eq_true p208
       replace q208 := eq_true q208
       refine start_ (n := 10) (S := fun w' => w'.cell? ⟨gb176, 0, none⟩ = some (.bool (t170 == 0)) ∧ w'.cell? ⟨gb176, 1, none⟩ = some (.bool x177001_5) ∧ w'.cell? ⟨gb176, 2, none⟩ = some (.int .i64 x177002_5) ∧ w'.cell? ⟨gb176, 3, none⟩ = some (.int .i64 x177003_5) ∧ w'.cell? ⟨gb176, 4, none⟩ = some (.int .i64 x177004_5) ∧ w'.cell? ⟨gb176, 5, none⟩ = some (.slice (some ad208) x177005_5.length co76) ∧ w'.cell? ad208 = some (.int .i64 ((rd_T41 x177005_5 0).f0)) ∧ w'.cell? ⟨ad208.block, ad208.off + 1, none⟩ = some (.int .i64 ((rd_T41 x177005_5 0).f1)) ∧ w'.cell? ⟨ad208.block, ad208.off + 2, none⟩ = some (.bool ((rd_T41 x177005_5 0).f2)) ∧ w'.cell? ⟨ad208.block, ad208.off + 3, none⟩ = some (.slice A208_3 ((rd_T41 x177005_5 0).f3).length c208_3) ∧ w'.cell? ⟨ad208.block, ad208.off + 4, none⟩ = some (.bool ((rd_T41 x177005_5 0).f4)) ∧ w'.cell? ⟨ad208.block, ad208.off + 5, none⟩ = some (.slice A208_5 ((rd_T41 x177005_5 0).f5).length c208_5)) (ds := [7, 9]) #[false, false, false, false, false, false, false, false, false, false] (by kernel_rfl) rfl rfl ⟨(blk_cell BK176.out 0).trans rfl, (blk_cell BK176.out 1).trans rfl, (blk_cell BK176.out 2).trans rfl, (blk_cell BK176.out 3).trans rfl, (blk_cell BK176.out 4).trans rfl, (blk_cell BK176.out 5).trans rfl, hx208_0, hx208_1, hx208_2, hx208_3, hx208_4, hx208_5⟩ (fun hHeld => ?_); refine with_tabW spec_l91Batch.tab13 spec_l91Batch.bits13 (fun HT_ HW_ => ?_)
       generalize w74.drew = w75 at HO_177005 BK169 BK176 HI0 HK HB HL208_3 HL208_5 HR208_3 HR208_5 hx208_0 hx208_1 hx208_2 hx208_3 hx208_4 hx208_5 hHeld ⊢
       refine pure_ (i := 0) (N := some 51) (v := ?_) (a' := ?_) #[true, false, false, false, false, false, false, false, false, false] rfl rfl (any_of HT_.out (by kernel_rfl)) (fun _ _ _ h => h) (Or.inl ⟨by rfl, ?_⟩) ?_ ?_
       rotate_left
       ·intro w'
        go_simp
        with_reducible rfl
       rotate_left
       ·simp only [Act.put, List.setIfInBounds_toArray, List.set_cons_zero, List.set_cons_succ, i64_w, i32_w]
        rfl
       refine pure_ (i := 2) (N := some 53) (v := ?_) (a' := ?_) #[true, false, true, false, false, false, false, false, false, false] rfl rfl (any_of HT_.out (by kernel_rfl)) (fun _ _ _ h => h) (Or.inl ⟨by rfl, ?_⟩) ?_ ?_
       rotate_left
       ·intro w'
        go_simp
        with_reducible rfl
       rotate_left
       ·simp only [Act.put, List.setIfInBounds_toArray, List.set_cons_zero, List.set_cons_succ, i64_w, i32_w]
        rfl
       refine take_ (i := 1) (N := some 52) (v := ?_) (a' := ?_) #[true, true, true, false, false, false, false, false, false, false] rfl rfl (take_ofW HT_.out HW_.out (by kernel_rfl)) (fun _ _ _ h => h) (Or.inl ⟨by rfl, ?_⟩) hHeld ?_ ?_
       rotate_left
       ·rintro w' ⟨s0, s1, s2, s3, s4, s5, s6, s7, s8, s9, s10, s11⟩
        go_simp
        with_reducible rfl
       rotate_left
       ·simp only [Act.put, List.setIfInBounds_toArray, List.set_cons_zero, List.set_cons_succ, i64_w, i32_w]
        rfl
       refine take_ (i := 3) (N := some 54) (v := ?_) (a' := ?_) #[true, true, true, true, false, false, false, false, false, false] rfl rfl (take_ofW HT_.out HW_.out (by kernel_rfl)) (fun _ _ _ h => h) (Or.inl ⟨by rfl, ?_⟩) hHeld ?_ ?_
       rotate_left
       ·rintro w' ⟨s0, s1, s2, s3, s4, s5, s6, s7, s8, s9, s10, s11⟩
        go_simp
        with_reducible rfl
       rotate_left
       ·simp only [Act.put, List.setIfInBounds_toArray, List.set_cons_zero, List.set_cons_succ, i64_w, i32_w]
        rfl
       refine pure_ (i := 4) (N := some 55) (v := ?_) (a' := ?_) #[true, true, true, true, true, false, false, false, false, false] rfl rfl (any_of HT_.out (by kernel_rfl)) (fun _ _ _ h => h) (Or.inl ⟨by rfl, ?_⟩) ?_ ?_
       rotate_left
       ·intro w'
        go_simp
        with_reducible rfl
       rotate_left
       ·simp only [Act.put, List.setIfInBounds_toArray, List.set_cons_zero, List.set_cons_succ, i64_w, i32_w]
        rfl
       refine take_ (i := 5) (N := some 56) (v := ?_) (a' := ?_) #[true, true, true, true, true, true, false, false, false, false] rfl rfl (take_ofW HT_.out HW_.out (by kernel_rfl)) (fun _ _ _ h => h) (Or.inl ⟨by rfl, ?_⟩) hHeld ?_ ?_
       rotate_left
       ·rintro w' ⟨s0, s1, s2, s3, s4, s5, s6, s7, s8, s9, s10, s11⟩
        go_simp
        with_reducible rfl
       rotate_left
       ·simp only [Act.put, List.setIfInBounds_toArray, List.set_cons_zero, List.set_cons_succ, i64_w, i32_w]
        rfl
       refine one_ (i := 6) (N := some 57) #[true, true, true, true, true, true, true, false, false, false] rfl rfl (one_of HT_.out (by kernel_rfl)) (by decide) (fun K hK => ?_)
       refine value_ (w1 := ?_) (v := ?_) (by rfl) rfl ?_ ?_
       rotate_left 2
       ·go_simp
        constructor
        ·rfl
        ·rfl
       refine hK.out _ _ ⟨(blk_cell (blk_alloc BK176.out _) 0).trans rfl, (blk_cell (blk_alloc BK176.out _) 1).trans rfl, (blk_cell (blk_alloc BK176.out _) 2).trans rfl, (blk_cell (blk_alloc BK176.out _) 3).trans rfl, (blk_cell (blk_alloc BK176.out _) 4).trans rfl, (blk_cell (blk_alloc BK176.out _) 5).trans rfl, (World.cell?_alloc_lt _ _ _ (World.block_lt_of_cell? _ _ (hHeld.2.2.2.2.2.2.1))).trans (hHeld.2.2.2.2.2.2.1), (World.cell?_alloc_lt _ _ _ (World.block_lt_of_cell? _ _ (hHeld.2.2.2.2.2.2.2.1))).trans (hHeld.2.2.2.2.2.2.2.1), (World.cell?_alloc_lt _ _ _ (World.block_lt_of_cell? _ _ (hHeld.2.2.2.2.2.2.2.2.1))).trans (hHeld.2.2.2.2.2.2.2.2.1), (World.cell?_alloc_lt _ _ _ (World.block_lt_of_cell? _ _ (hHeld.2.2.2.2.2.2.2.2.2.1))).trans (hHeld.2.2.2.2.2.2.2.2.2.1), (World.cell?_alloc_lt _ _ _ (World.block_lt_of_cell? _ _ (hHeld.2.2.2.2.2.2.2.2.2.2.1))).trans (hHeld.2.2.2.2.2.2.2.2.2.2.1), (World.cell?_alloc_lt _ _ _ (World.block_lt_of_cell? _ _ (hHeld.2.2.2.2.2.2.2.2.2.2.2))).trans (hHeld.2.2.2.2.2.2.2.2.2.2.2)⟩ (fun hHeld => ?_)
       clear hK K
       refine norm_ (a' := ?_) ?_ ?_
       rotate_left
       ·show Act.put _ (some 57) _ = _
        simp only [Act.put, List.setIfInBounds_toArray, List.set_cons_zero, List.set_cons_succ, i64_w, i32_w]
        rfl
       refine last_ (i := 7) (N := some 58) #[true, true, true, true, true, true, true, true, false, false] rfl rfl (one_of HT_.out (by kernel_rfl)) (by decide) (fun K hK => ?_)
       refine Kd.N_append_step k41 w.heap.size (by rfl) (.tmp 52) (.tmp 57) 23 41 (.agg #[(.int .i64 0), (.int .i64 0), (.bool false), (.slice none 0 0), (.bool false), (.slice none 0 0)]) 80 rfl Tryd.underlying23 info41 rfl (by decide) (by omega) (.slice (some ad208) x177005_5.length co76) x177005_5 (⟨(rd_T41 x177005_5 0).f0, (rd_T41 x177005_5 0).f1, (rd_T41 x177005_5 0).f2, (rd_T41 x177005_5 0).f3, (rd_T41 x177005_5 0).f4, (rd_T41 x177005_5 0).f5⟩ : S41) [.int .i64 ((rd_T41 x177005_5 0).f0), .int .i64 ((rd_T41 x177005_5 0).f1), .bool ((rd_T41 x177005_5 0).f2), .slice A208_3 ((rd_T41 x177005_5 0).f3).length c208_3, .bool ((rd_T41 x177005_5 0).f4), .slice A208_5 ((rd_T41 x177005_5 0).f5).length c208_5] (fun k_ => (w.heap.size ≤ k_) ∧ k_ ≠ gb169 ∧ k_ ≠ gb176 ∧ k_ ≠ g) (fun k_ => ((fun k_ => (w.heap.size ≤ k_) ∧ k_ ≠ gb169 ∧ k_ ≠ gb176 ∧ k_ ≠ g)) k_ ∧ some k_ ≠ (.slice (some ad208) x177005_5.length co76 : Value).ownBlock) rfl rfl ?aP (fun _ hk => hk) ?aF ?aO (Below.refl _ _) ?aS ?aL ?_
       (case aP => exact (k41_mkF _ _ (⟨(rd_T41 x177005_5 0).f0, (rd_T41 x177005_5 0).f1, (rd_T41 x177005_5 0).f2, (rd_T41 x177005_5 0).f3, (rd_T41 x177005_5 0).f4, (rd_T41 x177005_5 0).f5⟩ : S41) (Kd.V_reads' (Kd.V_mono (ok' := (fun k_ => ((fun k_ => (w.heap.size ≤ k_) ∧ k_ ≠ gb169 ∧ k_ ≠ gb176 ∧ k_ ≠ g)) k_ ∧ some k_ ≠ (.slice (some ad208) x177005_5.length co76 : Value).ownBlock)) (HL208_3.out) (fun k_ hk => ⟨⟨hk.1.1, ⟨hk.1.2.1, ⟨hk.1.2.2.1, hk.1.2.2.2⟩⟩⟩, hk.2⟩))).2.1 (Kd.V_F (Kd.V_mono (ok' := (fun k_ => ((fun k_ => (w.heap.size ≤ k_) ∧ k_ ≠ gb169 ∧ k_ ≠ gb176 ∧ k_ ≠ g)) k_ ∧ some k_ ≠ (.slice (some ad208) x177005_5.length co76 : Value).ownBlock)) (HL208_3.out) (fun k_ hk => ⟨⟨hk.1.1, ⟨hk.1.2.1, ⟨hk.1.2.2.1, hk.1.2.2.2⟩⟩⟩, hk.2⟩))) (Kd.V_reads' (Kd.V_mono (ok' := (fun k_ => ((fun k_ => (w.heap.size ≤ k_) ∧ k_ ≠ gb169 ∧ k_ ≠ gb176 ∧ k_ ≠ g)) k_ ∧ some k_ ≠ (.slice (some ad208) x177005_5.length co76 : Value).ownBlock)) (HL208_5.out) (fun k_ hk => ⟨⟨hk.1.1, ⟨hk.1.2.1, ⟨hk.1.2.2.1, hk.1.2.2.2⟩⟩⟩, hk.2⟩))).2.1 (Kd.V_F (Kd.V_mono (ok' := (fun k_ => ((fun k_ => (w.heap.size ≤ k_) ∧ k_ ≠ gb169 ∧ k_ ≠ gb176 ∧ k_ ≠ g)) k_ ∧ some k_ ≠ (.slice (some ad208) x177005_5.length co76 : Value).ownBlock)) (HL208_5.out) (fun k_ hk => ⟨⟨hk.1.1, ⟨hk.1.2.1, ⟨hk.1.2.2.1, hk.1.2.2.2⟩⟩⟩, hk.2⟩)))))
       (case aF => exact (fun k_ hk => ⟨(Nat.le_trans (keep_size (w := w) (g := g) (row := none) zk) hk), tfB BK169 k_ hk, tfB BK176 k_ hk, IsS72.fresh zi72 k_ hk⟩))
       (case aO => exact (tN HO_177005.out))
       (case aS => exact (keep_size (w := w) (g := g) (row := none) zk))
       (case aL => have := LMc73.out; omega)
       intro v210 w77 ho hb hg hat
       rw [← Ny209.out] at ho
       replace BK169 := Aside0.mk (blk_grown (tH BK169.out) hg (Kd.N_ne HO_177005.out BK169.out (by decide)))
       replace BK176 := Aside0.mk (blk_grown (tH BK176.out) hg (Kd.N_ne HO_177005.out BK176.out (by decide)))
       replace HL208_3 := Aside0.mk (Kd.V_afterv (ok := (fun k_ => (w.heap.size ≤ k_) ∧ k_ ≠ gb169 ∧ k_ ≠ gb176 ∧ k_ ≠ g)) (tV HL208_3.out) hg hat)
       replace HL208_5 := Aside0.mk (Kd.V_afterv (ok := (fun k_ => (w.heap.size ≤ k_) ∧ k_ ≠ gb169 ∧ k_ ≠ gb176 ∧ k_ ≠ g)) (tV HL208_5.out) hg hat)
       replace HB := Aside0.mk (below_weaken zb HL.out hb)
       replace HI0 := Aside0.mk (IsS72.grown zi72 hg (IsS72.own_neN HI0.out HO_177005.out (by decide)))
       replace HK := Aside0.mk (KeepBut.trans zk (KeepBut.of_grown hg g) (Kd.N_base2 HO_177005.out))
       have HO211 := Aside0.mk (ho)
       clear HO_177005
       clear ho hb hg hat
       obtain ⟨Ao78, co78, eo78⟩ := Kd.N_slice HO211.out
       (first | subst eo78 | (injection eo78 with f1_ f2_ f3_; have f4_ := f1_.symm; have f5_ := f3_.symm; clear f1_ f2_ f3_; subst f4_; subst f5_))
       refine hK.out _ _ ?_
       clear hK K
       refine norm_ (a' := ?_) ?_ ?_
       rotate_left
       ·show Act.put _ (some 58) _ = _
        simp only [Act.put, List.setIfInBounds_toArray, List.set_cons_zero, List.set_cons_succ, i64_w, i32_w]
        rfl
       refine pure_ (i := 8) (N := some 59) (v := ?_) (a' := ?_) #[true, true, true, true, true, true, true, true, true, false] rfl rfl (any_of HT_.out (by kernel_rfl)) (fun _ _ _ h => h) (Or.inl ⟨by rfl, ?_⟩) ?_ ?_
       rotate_left
       ·intro w'
        go_simp
        with_reducible rfl
       rotate_left
       ·simp only [Act.put, List.setIfInBounds_toArray, List.set_cons_zero, List.set_cons_succ, i64_w, i32_w]
        rfl
       refine last_ (i := 9) (N := none) #[true, true, true, true, true, true, true, true, true, true] rfl rfl (one_of HT_.out (by kernel_rfl)) (by decide) (fun K hK => ?_)
       have hs79 : w77.cell? ⟨gb176, 5, none⟩ = some (.slice (some ad208) x177005_5.length co76) := (blk_cell BK176.out 5).trans rfl
       have hfs79 := blk_frozen BK176.out 5
       have hns79_0 := NB169_176.out
       have hms79_0 := NB176_169.out
       refine skip_ (w1 := ?_) (by rfl) rfl ?_ ?_
       rotate_left
       ·go_simp
        rfl
       refine hK.out _ _ ?_
       clear hK K
       refine done_ (done_of HT_.out (by kernel_rfl)) ?_
       have hnb80 := NB176_169.out
       have hnc80 := NB169_176.out
       have hnb81 := NB176_0.out
       have hnc81 := NB0_176.out
       obtain ⟨hcz82_0, hcz82_1, hcz82_2, hcz82_3, hcz82_4, hcz82_5, hfz82_0, hfz82_1, hfz82_2, hfz82_3, hfz82_4, hfz82_5⟩ := cells6 BK176.out
       have hnb83 := NB169_0.out
       have hnc83 := NB0_169.out
       obtain ⟨hcz84_0, hcz84_1, hcz84_2, hcz84_3, hcz84_4, hcz84_5, hfz84_0, hfz84_1, hfz84_2, hfz84_3, hfz84_4, hfz84_5⟩ := cells6 BK169.out
       try go_wp2
       refine bodyPost_ret (results_cell_row rfl _ _ gb169 25 #[.bool (t170 == 0), .bool x177001_5, .int .i64 x177002_5, .int .i64 x177003_5, .int .i64 x177004_5, .slice Ao78 y209.length co78] (0, 0) _ rfl (tP BK169.out) Tryd.underlying25 rfl (by kernel_rfl)) rfl ?_
       exact ⟨_, by first | rfl | (simp [errW_none, errW_some] <;> rfl) | (simp [*, errW_none, errW_some] <;> rfl), by (with_reducible repeat (first | apply Kd.N_alloc | apply Kd.N_drewN | apply Kd.N_drew)); exact Kd.N_mono (Kd.N_far (p := ⟨gb169, 5, none⟩) (Kd.N_far (p := ⟨gb169, 4, none⟩) (Kd.N_far (p := ⟨gb169, 3, none⟩) (Kd.N_far (p := ⟨gb169, 2, none⟩) (Kd.N_far (p := ⟨gb169, 1, none⟩) (Kd.N_far (p := ⟨gb169, 0, none⟩) (Kd.N_far (p := ⟨gb176, 5, none⟩) (Kd.N_mono (Kd.N_mono HO211.out (fun k_ hk => (⟨hk, hk.2.2.1⟩ : _ ∧ k_ ≠ gb176))) (fun k_ hk => (⟨hk, hk.1.2.1⟩ : _ ∧ k_ ≠ gb169))) (fun _ hk => hk.1.2) (.slice Ao78 y209.length co78)) (fun _ hk => hk.2) (.bool (t170 == 0))) (fun _ hk => hk.2) (.bool x177001_5)) (fun _ hk => hk.2) (.int .i64 x177002_5)) (fun _ hk => hk.2) (.int .i64 x177003_5)) (fun _ hk => hk.2) (.int .i64 x177004_5)) (fun _ hk => hk.2) (.slice Ao78 y209.length co78)) (fun _ hk => hk.1.1.1), zi72, zb, zk⟩
      ·rw [if_neg c73] at H
       exact absurd H (by simp)
     ·rw [if_neg c72] at H
      exact absurd H (by simp)
    ·rw [if_neg c71] at H
     have c71b0 : (t200 == 1) = false := beq_eq_false_iff_ne.mpr c71
     have c71b1 : (t200 != 1) = true := bne_iff_ne.mpr c71
     by_cases c85 : t200 = 2
     ·rw [if_pos c85] at H
      have c85b0 : (t200 == 2) = true := beq_iff_eq.mpr c85
      have c85b1 : (t200 != 2) = false := bne_eq_false_iff_eq.mpr c85
      clear c85
      simp only [Option.some.injEq, Prod.mk.injEq] at H
      obtain ⟨rfl, rfl, rfl, rfl, rfl, rfl, rfl⟩ := H
      go_wp2_with (first | ((with_reducible refine gate_callee (f := 24) rfl ?_); refine goesL_ (some 40) rfl rfl Tryd.func24 (by kernel_rfl) rfl #[.pointer (some ⟨g, 0, none⟩), .int .i64 40] rfl tq ?_; (with_reducible refine (spec_l6Rd_pick.calls kj5 g s0_0 x1001_5 40 t200 t201 w0 _ ?side1 ?side2 A55.out).mono ?_); (case side1 => exact zi72); (case side2 => exact zb); rintro e w86 ⟨rfl, hi, hb, hk⟩; refine ⟨_, rfl, ?_⟩; replace HO_177005 := tNk HO_177005 hk; replace BK169 := tBk BK169 hk NB169_0; replace BK176 := tBk BK176 hk NB176_0; replace HK := tKt HK hk; replace HB := Aside0.mk (hb); replace HI0 := Aside0.mk (hi); (try clear hb); (try clear hb2); (try clear hk); (try clear hi); have hnb87 := NB176_169.out; have hnc87 := NB169_176.out; have hnb88 := NB176_0.out; have hnc88 := NB0_176.out; obtain ⟨hcz89_0, hcz89_1, hcz89_2, hcz89_3, hcz89_4, hcz89_5, hfz89_0, hfz89_1, hfz89_2, hfz89_3, hfz89_4, hfz89_5⟩ := cells6 BK176.out; have hnb90 := NB169_0.out; have hnc90 := NB0_169.out; obtain ⟨hcz91_0, hcz91_1, hcz91_2, hcz91_3, hcz91_4, hcz91_5, hfz91_0, hfz91_1, hfz91_2, hfz91_3, hfz91_4, hfz91_5⟩ := cells6 BK169.out; obtain ⟨Ao92, co92, eo92⟩ := Kd.N_slice HO_177005.out; subst eo92))
      refine bodyPost_ret (results_cell_row rfl _ _ gb169 25 #[.bool (t170 == 0), .bool (!x177001_5), .int .i64 x177002_5, .int .i64 x177003_5, .int .i64 x177004_5, .slice Ao92 x177005_5.length co92] (0, 0) _ rfl (tP BK169.out) Tryd.underlying25 rfl (by kernel_rfl)) rfl ?_
      exact ⟨_, by first | rfl | (simp [errW_none, errW_some] <;> rfl) | (simp [*, errW_none, errW_some] <;> rfl), by (with_reducible repeat (first | apply Kd.N_alloc | apply Kd.N_drewN | apply Kd.N_drew)); exact Kd.N_mono (Kd.N_far (p := ⟨gb169, 5, none⟩) (Kd.N_far (p := ⟨gb169, 4, none⟩) (Kd.N_far (p := ⟨gb169, 3, none⟩) (Kd.N_far (p := ⟨gb169, 2, none⟩) (Kd.N_far (p := ⟨gb169, 1, none⟩) (Kd.N_far (p := ⟨gb169, 0, none⟩) (Kd.N_far (p := ⟨gb176, 1, none⟩) (Kd.N_mono (Kd.N_mono HO_177005.out (fun k_ hk => (⟨hk, hk.2.2.1⟩ : _ ∧ k_ ≠ gb176))) (fun k_ hk => (⟨hk, hk.1.2.1⟩ : _ ∧ k_ ≠ gb169))) (fun _ hk => hk.1.2) (.bool (!x177001_5))) (fun _ hk => hk.2) (.bool (t170 == 0))) (fun _ hk => hk.2) (.bool (!x177001_5))) (fun _ hk => hk.2) (.int .i64 x177002_5)) (fun _ hk => hk.2) (.int .i64 x177003_5)) (fun _ hk => hk.2) (.int .i64 x177004_5)) (fun _ hk => hk.2) (.slice Ao92 x177005_5.length co92)) (fun _ hk => hk.1.1.1), zi72, zb, zk⟩
     ·rw [if_neg c85] at H
      have c85b0 : (t200 == 2) = false := beq_eq_false_iff_ne.mpr c85
      have c85b1 : (t200 != 2) = true := bne_iff_ne.mpr c85
      simp only [Option.some.injEq, Prod.mk.injEq] at H
      obtain ⟨rfl, rfl, rfl, rfl, rfl, rfl, rfl⟩ := H
      go_wp2_with (first | ((with_reducible refine gate_callee (f := 24) rfl ?_); refine goesL_ (some 40) rfl rfl Tryd.func24 (by kernel_rfl) rfl #[.pointer (some ⟨g, 0, none⟩), .int .i64 40] rfl tq ?_; (with_reducible refine (spec_l6Rd_pick.calls kj5 g s0_0 x1001_5 40 t200 t201 w0 _ ?side1 ?side2 A55.out).mono ?_); (case side1 => exact zi72); (case side2 => exact zb); rintro e w93 ⟨rfl, hi, hb, hk⟩; refine ⟨_, rfl, ?_⟩; replace HO_177005 := tNk HO_177005 hk; replace BK169 := tBk BK169 hk NB169_0; replace BK176 := tBk BK176 hk NB176_0; replace HK := tKt HK hk; replace HB := Aside0.mk (hb); replace HI0 := Aside0.mk (hi); (try clear hb); (try clear hb2); (try clear hk); (try clear hi); have hnb94 := NB176_169.out; have hnc94 := NB169_176.out; have hnb95 := NB176_0.out; have hnc95 := NB0_176.out; obtain ⟨hcz96_0, hcz96_1, hcz96_2, hcz96_3, hcz96_4, hcz96_5, hfz96_0, hfz96_1, hfz96_2, hfz96_3, hfz96_4, hfz96_5⟩ := cells6 BK176.out; have hnb97 := NB169_0.out; have hnc97 := NB0_169.out; obtain ⟨hcz98_0, hcz98_1, hcz98_2, hcz98_3, hcz98_4, hcz98_5, hfz98_0, hfz98_1, hfz98_2, hfz98_3, hfz98_4, hfz98_5⟩ := cells6 BK169.out; obtain ⟨Ao99, co99, eo99⟩ := Kd.N_slice HO_177005.out; subst eo99))
      refine bodyPost_ret (results_cell_row rfl _ _ gb169 25 #[.bool (t170 == 0), .bool x177001_5, .int .i64 x177002_5, .int .i64 x177003_5, .int .i64 x177004_5, .slice Ao99 x177005_5.length co99] (0, 0) _ rfl (tP BK169.out) Tryd.underlying25 rfl (by kernel_rfl)) rfl ?_
      exact ⟨_, by first | rfl | (simp [errW_none, errW_some] <;> rfl) | (simp [*, errW_none, errW_some] <;> rfl), tNm HO_177005.out, zi72, zb, zk⟩

end Go.Proofs.YtahenocndacjeaaDoor.G

namespace Go.Proofs.YtahenocndacjeaaDoor.G
open Go.RowKit Go.Proofs.YtahenocndacjeaaDoorW.PrintWords Go.Proofs.YtahenocndacjeaaDoorW.PrintLast Go.Proofs.YtahenocndacjeaaDoorW.PrintMore
attribute [local go_sem] max2_int min2_int max_two min_two max_three min_three max_four min_four   -- for this text's walks alone
set_option linter.unusedVariables false
set_option linter.unusedSimpArgs false

def spec_DrawBatchCut.f (k : Nat) (l0 : List Int) : Option (Bool × Bool × Int × Int × Int × (List (S41)) × Int) := (spec_l6Open.f l0).bind fun bt213 => ((spec_l6Rd_pick.f k bt213.1 bt213.2 40).bind fun bt216 => ((spec_l91Batch.f k bt213.1 bt216.2 bt216.1).bind fun bt218 => ((spec_l6Rd_pick.f k bt213.1 bt218.2.2.2.2.2.2 3).bind fun bt228 => (if bt228.1 > 0 then ((spec_l6Rd_pick.f k bt213.1 bt228.2 40).bind fun bt230 => ((spec_l91Records.f k bt213.1 bt230.2 bt230.1 6).bind fun bt232 => (if 0 < (bt232.1.length : Int) then ((spec_l6Rd_pick.f k bt213.1 bt232.2 (wrap64 ((bt232.1.length : Int) + 1))).bind fun bt237 => (some (bt218.1, false, 255, 0, 0, bt232.1, wrap64 (((rd_T41 bt232.1 0).f0) + bt237.1)))) else (none)))) else (if 0 < (bt218.2.2.2.2.2.1.length : Int) then ((spec_l6Rd_pick.f k bt213.1 bt228.2 (wrap64 ((bt218.2.2.2.2.2.1.length : Int) + 1))).bind fun bt240 => (some (bt218.1, bt218.2.1, bt218.2.2.1, bt218.2.2.2.1, bt218.2.2.2.2.1, bt218.2.2.2.2.2.1, wrap64 (((rd_T41 bt218.2.2.2.2.2.1 0).f0) + bt240.1)))) else (none))))))
def spec_DrawBatchCut.T4 : Bool × List (List Nat × List Nat) := (true, [([], []), ([0], [0]), ([], []), ([], []), ([3], [3]), ([2, 4, 4], [2, 4]), ([1, 5], [1, 5]), ([6, 5, 0, 1, 2, 3, 4, 5, 6], [6])])
def spec_DrawBatchCut.B4 : List Nat := [0, 1, 0, 0, 8, 28, 63, 127]
theorem spec_DrawBatchCut.tab4 : rtab .any (opsOf Tryd.f8 4) = spec_DrawBatchCut.T4 := by kernel_rfl
theorem spec_DrawBatchCut.bits4 : waitsOk spec_DrawBatchCut.T4.2 spec_DrawBatchCut.B4 = true := by kernel_rfl
def spec_DrawBatchCut.T5 : Bool × List (List Nat × List Nat) := (true, [([], []), ([], []), ([1], [1]), ([2], [2]), ([3], [3]), ([4], [4]), ([], []), ([], []), ([7], [7]), ([8], [8]), ([9], [9]), ([6, 10], [6, 10]), ([5, 11], [5, 11]), ([0, 11, 0], [0]), ([12, 13, 0, 1, 2, 3, 4, 5, 6, 7, 8, 9, 10, 11, 12, 13], [12])])
def spec_DrawBatchCut.B5 : List Nat := [0, 0, 2, 6, 14, 30, 0, 0, 128, 384, 896, 1984, 4094, 4033, 16383]
theorem spec_DrawBatchCut.tab5 : rtab .any (opsOf Tryd.f8 5) = spec_DrawBatchCut.T5 := by kernel_rfl
theorem spec_DrawBatchCut.bits5 : waitsOk spec_DrawBatchCut.T5.2 spec_DrawBatchCut.B5 = true := by kernel_rfl
set_option maxHeartbeats 8000000 in
set_option maxRecDepth 100000 in
theorem spec_DrawBatchCut.calls (k : Nat) (A0 : Option Addr) (c0 : Nat) (l0 : List Int) (r1 : Bool) (r2 : Bool) (r3 : Int) (r4 : Int) (r5 : Int) (r6 : List (S41)) (r7 : Int) (w : World) (hr0 : Kd.C (Kd.int .u8) w A0 l0.length l0) (hc0 : l0.length ≤ c0) (h : spec_DrawBatchCut.f k l0 = some (r1, r2, r3, r4, r5, r6, r7)) :
  Calls Tryd.prog 8 #[.slice A0 l0.length c0] w fun e w' => ∃ v5_ : Value, e = .returned (.tuple #[.agg #[.bool r1, .bool r2, .int .i64 r3, .int .i64 r4, .int .i64 r5, v5_], .int .i64 r7]) ∧ Kd.N k41 41 w' w.heap.size (fun k_ => (w.heap.size ≤ k_)) v5_ r6 ∧ Below w.heap.size w w' := by
 have hu25 := Tryd.underlying25
 have HR0 := Aside0.mk hr0
 have HC0 := Aside0.mk hc0
 clear hr0 hc0
 have HB := Aside0.mk (Below.refl w.heap.size w)
 have H : ((spec_l6Open.f l0).bind fun bt213 => ((spec_l6Rd_pick.f k bt213.1 bt213.2 40).bind fun bt216 => ((spec_l91Batch.f k bt213.1 bt216.2 bt216.1).bind fun bt218 => ((spec_l6Rd_pick.f k bt213.1 bt218.2.2.2.2.2.2 3).bind fun bt228 => (if bt228.1 > 0 then ((spec_l6Rd_pick.f k bt213.1 bt228.2 40).bind fun bt230 => ((spec_l91Records.f k bt213.1 bt230.2 bt230.1 6).bind fun bt232 => (if 0 < (bt232.1.length : Int) then ((spec_l6Rd_pick.f k bt213.1 bt232.2 (wrap64 ((bt232.1.length : Int) + 1))).bind fun bt237 => (some (bt218.1, false, 255, 0, 0, bt232.1, wrap64 (((rd_T41 bt232.1 0).f0) + bt237.1)))) else (none)))) else (if 0 < (bt218.2.2.2.2.2.1.length : Int) then ((spec_l6Rd_pick.f k bt213.1 bt228.2 (wrap64 ((bt218.2.2.2.2.2.1.length : Int) + 1))).bind fun bt240 => (some (bt218.1, bt218.2.1, bt218.2.2.1, bt218.2.2.2.1, bt218.2.2.2.2.1, bt218.2.2.2.2.2.1, wrap64 (((rd_T41 bt218.2.2.2.2.2.1 0).f0) + bt240.1)))) else (none))))))) = some (r1, r2, r3, r4, r5, r6, r7) := h
 clear h
 replace H := tbe H
 obtain ⟨⟨t213, t214⟩, A2, H⟩ := H
 dsimp only at H
 replace H := tbe H
 obtain ⟨⟨t216, t217⟩, A3, H⟩ := H
 dsimp only at H
 replace H := tbe H
 obtain ⟨⟨t218, t219, t220, t221, t222, t223, t226⟩, A4, H⟩ := H
 dsimp only at H
 replace H := tbe H
 obtain ⟨⟨t228, t229⟩, A5, H⟩ := H
 dsimp only at H
 by_cases c6 : t228 > 0
 ·rw [if_pos c6] at H
  have c6b0 : decide (0 < t228) = true := decide_eq_true c6
  clear c6
  replace H := tbe H
  obtain ⟨⟨t230, t231⟩, A7, H⟩ := H
  dsimp only at H
  replace H := tbe H
  obtain ⟨⟨t232, t235⟩, A8, H⟩ := H
  dsimp only at H
  by_cases c9 : 0 < (t232.length : Int)
  ·rw [if_pos c9] at H
   have c9b0 : decide (0 < (t232.length : Int)) = true := decide_eq_true c9
   have c9b1 : decide (0 < t232.length) = true := decide_eq_true (by omega)
   clear c9
   replace H := tbe H
   obtain ⟨⟨t237, t238⟩, A10, H⟩ := H
   dsimp only at H
   simp only [Option.some.injEq, Prod.mk.injEq] at H
   obtain ⟨rfl, rfl, rfl, rfl, rfl, rfl, rfl⟩ := H
   go_enter Tryd.func8, Tryd.ntmps8
   try go_wp2_with (first | ((with_reducible refine gate_dst (N := 2) rfl ?_); refine box_event ?hg (N := 2) ?hd (cs := #[.bool false, .bool false, .int .i64 0, .int .i64 0, .int .i64 0, .slice none 0 0]) (t := 25) ?hr ?_; (case hd => rfl); (case hg => rfl); (case hr => first | (go_simp; done) | (go_simp; rfl)); intro gb212 hg w11 hbox hb; have BK212 := Aside0.mk (hbox); have GW212 := tge HB hg; have GE212 := tge HB hg; replace HB := tBs HB hb; clear hb hbox hg) | ((with_reducible refine gate_callee (f := 22) rfl ?_); refine goesL_ (some 7) rfl rfl Tryd.func22 (by kernel_rfl) rfl #[.slice A0 l0.length c0] rfl tq ?_; (with_reducible refine (spec_l6Open.calls _ _ l0 t213 t214 w _ ?side1 ?side2 ?side3 A2.out).mono ?_); (case side1 => exact zb); (case side2 => exact HR0.out); (case side3 => exact HC0.out); rintro e w12 ⟨g215, rfl, hi, hb, hb2⟩; refine ⟨_, rfl, ?_⟩; replace HB := Aside0.mk (hb); have HI215 := Aside0.mk (hi); have NB215_212 := Aside0.mk (IsS72.ne_blk hi (blk_below (g := gb212) (o := .cells #[.bool false, .bool false, .int .i64 0, .int .i64 0, .int .i64 0, .slice none 0 0] 25 (0, 0)) (tH BK212.out) hb2) (by decide)); have NB212_215 := Aside0.mk (Ne.symm (IsS72.ne_blk hi (blk_below (g := gb212) (o := .cells #[.bool false, .bool false, .int .i64 0, .int .i64 0, .int .i64 0, .slice none 0 0] 25 (0, 0)) (tH BK212.out) hb2) (by decide))); replace BK212 := Aside0.mk (blk_below (g := gb212) (o := .cells #[.bool false, .bool false, .int .i64 0, .int .i64 0, .int .i64 0, .slice none 0 0] 25 (0, 0)) (tH BK212.out) hb2); (try clear hb); (try clear hb2); (try clear hk); (try clear hi)) | ((with_reducible refine gate_callee (f := 24) rfl ?_); refine goesL_ (some 10) rfl rfl Tryd.func24 (by kernel_rfl) rfl #[.pointer (some ⟨g215, 0, none⟩), .int .i64 40] rfl tq ?_; (with_reducible refine (spec_l6Rd_pick.calls k g215 t213 t214 40 t216 t217 w _ ?side1 ?side2 A3.out).mono ?_); (case side1 => repeat (first | (with_reducible first | exact HI215.out | apply IsS72.alloc | apply IsS72.drewN | apply IsS72.drew | apply IsS72.set_1 | refine IsS72.far ?_ NB215_212.out _) | exact HI215.out)); (case side2 => repeat (first | (with_reducible first | exact HB.out | apply below_alloc | apply pw_below_drewN | apply below_drew1 | refine below_set ?_ (IsS72.ge HI215.out) | refine below_set ?_ GE212.out) | exact HB.out)); rintro e w13 ⟨rfl, hi, hb, hk⟩; refine ⟨_, rfl, ?_⟩; replace BK212 := tBk BK212 hk NB212_215; replace HB := Aside0.mk (hb); replace HI215 := Aside0.mk (hi); (try clear hb); (try clear hb2); (try clear hk); (try clear hi)) | ((with_reducible refine gate_callee (f := 23) rfl ?_); refine goesL_ (some 11) rfl rfl Tryd.func23 (by kernel_rfl) rfl #[.pointer (some ⟨g215, 0, none⟩), .int .i64 t216] rfl tq ?_; (with_reducible refine (spec_l91Batch.calls k g215 t213 t217 t216 t218 t219 t220 t221 t222 t223 t226 w _ ?side1 ?side2 A4.out).mono ?_); (case side1 => repeat (first | (with_reducible first | exact HI215.out | apply IsS72.alloc | apply IsS72.drewN | apply IsS72.drew | apply IsS72.set_1 | refine IsS72.far ?_ NB215_212.out _) | exact HI215.out)); (case side2 => repeat (first | (with_reducible first | exact HB.out | apply below_alloc | apply pw_below_drewN | apply below_drew1 | refine below_set ?_ (IsS72.ge HI215.out) | refine below_set ?_ GE212.out) | exact HB.out)); rintro e w14 ⟨v224, rfl, ho0, hi, hb, hk⟩; have u_v224 := tsv Tryd.prog v224 ho0; refine ⟨_, rfl, ?_⟩; have HO225 := Aside0.mk (Kd.N_lower (Kd.N_mono (ok' := fun k_ => (w.heap.size ≤ k_) ∧ k_ ≠ gb212 ∧ k_ ≠ g215) ho0 (fun k_ hk_ => ⟨(Nat.le_trans (below_size (by repeat (first | (with_reducible first | exact HB.out | apply below_alloc | apply pw_below_drewN | apply below_drew1 | refine below_set ?_ (IsS72.ge HI215.out) | refine below_set ?_ GE212.out) | exact HB.out))) hk_), (tfB BK212 k_ hk_), (IsS72.fresh (by repeat (first | (with_reducible first | exact HI215.out | apply IsS72.alloc | apply IsS72.drewN | apply IsS72.drew | apply IsS72.set_1 | refine IsS72.far ?_ NB215_212.out _) | exact HI215.out)) k_ hk_)⟩)) (below_size (by repeat (first | (with_reducible first | exact HB.out | apply below_alloc | apply pw_below_drewN | apply below_drew1 | refine below_set ?_ (IsS72.ge HI215.out) | refine below_set ?_ GE212.out) | exact HB.out)))); replace BK212 := tBk BK212 hk NB212_215; replace HB := Aside0.mk (hb); replace HI215 := Aside0.mk (hi); (try clear hb); (try clear hb2); (try clear hk); (try clear hi); (try clear ho0)) | ((with_reducible refine gate_dst (N := 5) rfl ?_); refine box_event ?hg (N := 5) ?hd (cs := #[.bool false, .bool false, .int .i64 0, .int .i64 0, .int .i64 0, .slice none 0 0]) (t := 25) ?hr ?_; (case hd => rfl); (case hg => rfl); (case hr => first | (go_simp; done) | (go_simp; rfl)); intro gb227 hg w15 hbox hb; replace HO225 := tNB HO225 hg hb; have BK227 := Aside0.mk (hbox); have GW227 := Aside0.mk ((by rw [hg]; exact (below_size (by repeat (first | (with_reducible first | exact HB.out | apply below_alloc | apply pw_below_drewN | apply below_drew1 | refine below_set ?_ (IsS72.ge HI215.out) | refine below_set ?_ GE212.out) | exact HB.out))) : w.heap.size ≤ gb227)); have GE227 := Aside0.mk ((by rw [hg]; exact (below_size (by repeat (first | (with_reducible first | exact HB.out | apply below_alloc | apply pw_below_drewN | apply below_drew1 | refine below_set ?_ (IsS72.ge HI215.out) | refine below_set ?_ GE212.out) | exact HB.out))) : w.heap.size ≤ gb227)); replace HB := Aside0.mk (below_step (by repeat (first | (with_reducible first | exact HB.out | apply below_alloc | apply pw_below_drewN | apply below_drew1 | refine below_set ?_ (IsS72.ge HI215.out) | refine below_set ?_ GE212.out) | exact HB.out)) hb); have NB212_227 := tlt BK212 hg; have NB227_212 := tgt BK212 hg; replace BK212 := tBb BK212 hb; have NB215_227 := Aside0.mk ((by rw [hg]; exact Nat.ne_of_lt (IsS72.lt (show IsS72 w _ g215 t213 t226 from by repeat (first | (with_reducible first | exact HI215.out | apply IsS72.alloc | apply IsS72.drewN | apply IsS72.drew | apply IsS72.set_1 | refine IsS72.far ?_ NB215_212.out _) | exact HI215.out))) : g215 ≠ gb227)); have NB227_215 := Aside0.mk ((by rw [hg]; exact Nat.ne_of_gt (IsS72.lt (show IsS72 w _ g215 t213 t226 from by repeat (first | (with_reducible first | exact HI215.out | apply IsS72.alloc | apply IsS72.drewN | apply IsS72.drew | apply IsS72.set_1 | refine IsS72.far ?_ NB215_212.out _) | exact HI215.out))) : gb227 ≠ g215)); replace HI215 := Aside0.mk (IsS72.below (by repeat (first | (with_reducible first | exact HI215.out | apply IsS72.alloc | apply IsS72.drewN | apply IsS72.drew | apply IsS72.set_1 | refine IsS72.far ?_ NB215_212.out _) | exact HI215.out)) hb); clear hb hbox hg; have hnb16 := NB227_212.out; have hnc16 := NB212_227.out; have hnb17 := NB227_215.out; have hnc17 := NB215_227.out; obtain ⟨hcz18_0, hcz18_1, hcz18_2, hcz18_3, hcz18_4, hcz18_5, hfz18_0, hfz18_1, hfz18_2, hfz18_3, hfz18_4, hfz18_5⟩ := cells6 BK227.out; obtain ⟨Ao19, co19, eo19⟩ := Kd.N_slice HO225.out; subst eo19) | ((with_reducible refine gate_callee (f := 24) rfl ?_); refine goesL_ (some 13) rfl rfl Tryd.func24 (by kernel_rfl) rfl #[.pointer (some ⟨g215, 0, none⟩), .int .i64 3] rfl tq ?_; (with_reducible refine (spec_l6Rd_pick.calls k g215 t213 t226 3 t228 t229 w _ ?side1 ?side2 A5.out).mono ?_); (case side1 => repeat (first | (with_reducible first | exact HI215.out | apply IsS72.alloc | apply IsS72.drewN | apply IsS72.drew | apply IsS72.set_1 | refine IsS72.far ?_ NB215_212.out _ | refine IsS72.far ?_ NB215_227.out _) | exact HI215.out)); (case side2 => repeat (first | (with_reducible first | exact HB.out | apply below_alloc | apply pw_below_drewN | apply below_drew1 | refine below_set ?_ (IsS72.ge HI215.out) | refine below_set ?_ GE212.out | refine below_set ?_ GE227.out) | exact HB.out)); rintro e w20 ⟨rfl, hi, hb, hk⟩; refine ⟨_, rfl, ?_⟩; replace BK212 := tBk BK212 hk NB212_215; replace HO225 := tNk HO225 hk; replace BK227 := tBq (o' := .cells #[.bool t218, .bool t219, .int .i64 t220, .int .i64 t221, .int .i64 t222, .slice Ao19 t223.length co19] 25 (0, 0)) BK227 hk NB227_215; replace HB := Aside0.mk (hb); replace HI215 := Aside0.mk (hi); (try clear hb); (try clear hb2); (try clear hk); (try clear hi)))
   replace HO225 := Aside0.mk (Kd.N_drew HO225.out)
   replace BK212 := Aside0.mk (blk_drew BK212.out)
   replace BK227 := Aside0.mk (blk_drew BK227.out)
   replace HI215 := Aside0.mk (IsS72.drew HI215.out)
   replace HB := Aside0.mk (below_drew1 HB.out)
   refine start_ (n := 8) (S := fun w' => w'.cell? ⟨gb227, 0, none⟩ = some (.bool t218) ∧ w'.cell? ⟨gb227, 1, none⟩ = some (.bool t219) ∧ w'.cell? ⟨gb227, 2, none⟩ = some (.int .i64 t220) ∧ w'.cell? ⟨gb227, 3, none⟩ = some (.int .i64 t221) ∧ w'.cell? ⟨gb227, 4, none⟩ = some (.int .i64 t222) ∧ w'.cell? ⟨gb227, 5, none⟩ = some (.slice Ao19 t223.length co19)) (ds := [7]) #[false, false, false, false, false, false, false, false] (by kernel_rfl) rfl rfl ⟨(blk_cell BK227.out 0).trans rfl, (blk_cell BK227.out 1).trans rfl, (blk_cell BK227.out 2).trans rfl, (blk_cell BK227.out 3).trans rfl, (blk_cell BK227.out 4).trans rfl, (blk_cell BK227.out 5).trans rfl⟩ (fun hHeld => ?_); refine with_tabW spec_DrawBatchCut.tab4 spec_DrawBatchCut.bits4 (fun HT_ HW_ => ?_)
   generalize w20.drew = w21 at HO225 BK212 BK227 HI215 HB hHeld ⊢
   refine pure_ (i := 0) (N := some 15) (v := ?_) (a' := ?_) #[true, false, false, false, false, false, false, false] rfl rfl (any_of HT_.out (by kernel_rfl)) (fun _ _ _ h => h) (Or.inl ⟨by rfl, ?_⟩) ?_ ?_
   rotate_left
   ·intro w'
    go_simp
    with_reducible rfl
   rotate_left
   ·simp only [Act.put, List.setIfInBounds_toArray, List.set_cons_zero, List.set_cons_succ, i64_w, i32_w]
    rfl
   refine pure_ (i := 2) (N := some 17) (v := ?_) (a' := ?_) #[true, false, true, false, false, false, false, false] rfl rfl (any_of HT_.out (by kernel_rfl)) (fun _ _ _ h => h) (Or.inl ⟨by rfl, ?_⟩) ?_ ?_
   rotate_left
   ·intro w'
    go_simp
    with_reducible rfl
   rotate_left
   ·simp only [Act.put, List.setIfInBounds_toArray, List.set_cons_zero, List.set_cons_succ, i64_w, i32_w]
    rfl
   refine pure_ (i := 3) (N := some 18) (v := ?_) (a' := ?_) #[true, false, true, true, false, false, false, false] rfl rfl (any_of HT_.out (by kernel_rfl)) (fun _ _ _ h => h) (Or.inl ⟨by rfl, ?_⟩) ?_ ?_
   rotate_left
   ·intro w'
    go_simp
    with_reducible rfl
   rotate_left
   ·simp only [Act.put, List.setIfInBounds_toArray, List.set_cons_zero, List.set_cons_succ, i64_w, i32_w]
    rfl
   refine take_ (i := 1) (N := some 16) (v := ?_) (a' := ?_) #[true, true, true, true, false, false, false, false] rfl rfl (take_ofW HT_.out HW_.out (by kernel_rfl)) (fun _ _ _ h => h) (Or.inl ⟨by rfl, ?_⟩) hHeld ?_ ?_
   rotate_left
   ·rintro w' ⟨s0, s1, s2, s3, s4, s5⟩
    go_simp
    with_reducible rfl
   rotate_left
   ·simp only [Act.put, List.setIfInBounds_toArray, List.set_cons_zero, List.set_cons_succ, i64_w, i32_w]
    rfl
   refine one_ (i := 4) (N := some 19) #[true, true, true, true, true, false, false, false] rfl rfl (one_of HT_.out (by kernel_rfl)) (by decide) (fun K hK => ?_)
   refine goes_ Tryd.func24 (by kernel_rfl) rfl #[.pointer (some ⟨g215, 0, none⟩), .int .i64 40] (by rfl) rfl rfl tq ?_
   with_reducible refine (spec_l6Rd_pick.calls k g215 t213 t229 40 t230 t231 w _ ?side1 ?side2 A7.out).mono ?_
   (case side1 => repeat (first | (with_reducible first | exact HI215.out | apply IsS72.alloc | apply IsS72.drewN | apply IsS72.drew | apply IsS72.set_1 | refine IsS72.far ?_ NB215_212.out _ | refine IsS72.far ?_ NB215_227.out _) | exact HI215.out))
   (case side2 => repeat (first | (with_reducible first | exact HB.out | apply below_alloc | apply pw_below_drewN | apply below_drew1 | refine below_set ?_ (IsS72.ge HI215.out) | refine below_set ?_ GE212.out | refine below_set ?_ GE227.out) | exact HB.out))
   rintro e w22 ⟨rfl, hi, hb, hk⟩
   refine ⟨_, rfl, ?_⟩
   replace BK212 := tBk BK212 hk NB212_215
   replace HO225 := tNk HO225 hk
   replace BK227 := tBk BK227 hk NB227_215
   replace HB := Aside0.mk (hb)
   replace HI215 := Aside0.mk (hi)
   (try clear hb)
   (try clear hb2)
   (try clear hk)
   (try clear hi)
   refine hK.out _ _ ⟨(blk_cell BK227.out 0).trans rfl, (blk_cell BK227.out 1).trans rfl, (blk_cell BK227.out 2).trans rfl, (blk_cell BK227.out 3).trans rfl, (blk_cell BK227.out 4).trans rfl, (blk_cell BK227.out 5).trans rfl⟩ (fun hHeld => ?_)
   clear hK K
   refine norm_ (a' := ?_) ?_ ?_
   rotate_left
   ·show Act.put _ (some 19) _ = _
    simp only [Act.put, List.setIfInBounds_toArray, List.set_cons_zero, List.set_cons_succ, i64_w, i32_w]
    rfl
   refine one_ (i := 5) (N := some 20) #[true, true, true, true, true, true, false, false] rfl rfl (one_of HT_.out (by kernel_rfl)) (by decide) (fun K hK => ?_)
   refine goes_ Tryd.func25 (by kernel_rfl) rfl #[.pointer (some ⟨g215, 0, none⟩), .int .i64 t230, .int .i64 6] (by rfl) rfl rfl tq ?_
   with_reducible refine (spec_l91Records.calls k g215 t213 t231 t230 6 t232 t235 w _ ?side1 ?side2 A8.out).mono ?_
   (case side1 => repeat (first | (with_reducible first | exact HI215.out | apply IsS72.alloc | apply IsS72.drewN | apply IsS72.drew | apply IsS72.set_1 | refine IsS72.far ?_ NB215_212.out _ | refine IsS72.far ?_ NB215_227.out _) | exact HI215.out))
   (case side2 => repeat (first | (with_reducible first | exact HB.out | apply below_alloc | apply pw_below_drewN | apply below_drew1 | refine below_set ?_ (IsS72.ge HI215.out) | refine below_set ?_ GE212.out | refine below_set ?_ GE227.out) | exact HB.out))
   rintro e w23 ⟨v233, rfl, ho0, hi, hb, hk⟩
   refine ⟨_, rfl, ?_⟩
   have HO234 := Aside0.mk (Kd.N_lower (Kd.N_mono (ok' := fun k_ => (w.heap.size ≤ k_) ∧ some k_ ≠ (.slice Ao19 t223.length co19 : Value).ownBlock ∧ k_ ≠ gb212 ∧ k_ ≠ gb227 ∧ k_ ≠ g215) (Kd.S_N (Kd.S_bound ho0)) (fun k_ hk_ => ⟨(Nat.le_trans (below_size (by repeat (first | (with_reducible first | exact HB.out | apply below_alloc | apply pw_below_drewN | apply below_drew1 | refine below_set ?_ (IsS72.ge HI215.out) | refine below_set ?_ GE212.out | refine below_set ?_ GE227.out) | exact HB.out))) hk_.2.1), (tfr HO225 k_ hk_.2.1), (tfB BK212 k_ hk_.2.1), (tfB BK227 k_ hk_.2.1), (IsS72.fresh (by repeat (first | (with_reducible first | exact HI215.out | apply IsS72.alloc | apply IsS72.drewN | apply IsS72.drew | apply IsS72.set_1 | refine IsS72.far ?_ NB215_212.out _ | refine IsS72.far ?_ NB215_227.out _) | exact HI215.out)) k_ hk_.2.1)⟩)) (below_size (by repeat (first | (with_reducible first | exact HB.out | apply below_alloc | apply pw_below_drewN | apply below_drew1 | refine below_set ?_ (IsS72.ge HI215.out) | refine below_set ?_ GE212.out | refine below_set ?_ GE227.out) | exact HB.out))))
   replace BK212 := tBk BK212 hk NB212_215
   replace HO225 := Aside0.mk (Kd.N_mono (Kd.N_told (Kd.N_oldK (Kd.N_mono (ok := fun k_ => ((((w.heap.size ≤ k_)) ∧ (k_ ≠ gb212 ∧ k_ ≠ g215)) ∧ k_ ≠ gb227)) (tN HO225.out) (fun k_ hk_ => (⟨hk_, hk_.1.2.2⟩ : _ ∧ k_ ≠ g215))) hk) (tb ho0)) (fun _ h_ => h_.1))
   replace BK227 := tBk BK227 hk NB227_215
   replace HB := Aside0.mk (hb)
   replace HI215 := Aside0.mk (hi)
   (try clear hb)
   (try clear hb2)
   (try clear hk)
   (try clear hi)
   (try clear ho0)
   obtain ⟨Ao24, co24, eo24⟩ := Kd.N_slice HO234.out
   (first | subst eo24 | (injection eo24 with f1_ f2_ f3_; have f4_ := f1_.symm; have f5_ := f3_.symm; clear f1_ f2_ f3_; subst f4_; subst f5_))
   refine hK.out _ _ ⟨(blk_cell BK227.out 0).trans rfl, (blk_cell BK227.out 1).trans rfl, (blk_cell BK227.out 2).trans rfl, (blk_cell BK227.out 3).trans rfl, (blk_cell BK227.out 4).trans rfl, (blk_cell BK227.out 5).trans rfl⟩ (fun hHeld => ?_)
   clear hK K
   refine norm_ (a' := ?_) ?_ ?_
   rotate_left
   ·show Act.put _ (some 20) _ = _
    simp only [Act.put, List.setIfInBounds_toArray, List.set_cons_zero, List.set_cons_succ, i64_w, i32_w]
    rfl
   refine pure_ (i := 6) (N := some 21) (v := ?_) (a' := ?_) #[true, true, true, true, true, true, true, false] rfl rfl (any_of HT_.out (by kernel_rfl)) (fun _ _ _ h => h) (Or.inl ⟨by rfl, ?_⟩) ?_ ?_
   rotate_left
   ·intro w'
    go_simp
    with_reducible rfl
   rotate_left
   ·simp only [Act.put, List.setIfInBounds_toArray, List.set_cons_zero, List.set_cons_succ, i64_w, i32_w]
    rfl
   refine last_ (i := 7) (N := none) #[true, true, true, true, true, true, true, true] rfl rfl (one_of HT_.out (by kernel_rfl)) (by decide) (fun K hK => ?_)
   have hs25 : w23.cell? ⟨gb227, 0, none⟩ = some (.bool t218) := (blk_cell BK227.out 0).trans rfl
   have hfs25 := blk_frozen BK227.out 0
   have hns25_0 := NB212_227.out
   have hms25_0 := NB227_212.out
   have hs26 : w23.cell? ⟨gb227, 1, none⟩ = some (.bool t219) := (blk_cell BK227.out 1).trans rfl
   have hfs26 := blk_frozen BK227.out 1
   have hns26_0 := NB212_227.out
   have hms26_0 := NB227_212.out
   have hs27 : w23.cell? ⟨gb227, 2, none⟩ = some (.int .i64 t220) := (blk_cell BK227.out 2).trans rfl
   have hfs27 := blk_frozen BK227.out 2
   have hns27_0 := NB212_227.out
   have hms27_0 := NB227_212.out
   have hs28 : w23.cell? ⟨gb227, 3, none⟩ = some (.int .i64 t221) := (blk_cell BK227.out 3).trans rfl
   have hfs28 := blk_frozen BK227.out 3
   have hns28_0 := NB212_227.out
   have hms28_0 := NB227_212.out
   have hs29 : w23.cell? ⟨gb227, 4, none⟩ = some (.int .i64 t222) := (blk_cell BK227.out 4).trans rfl
   have hfs29 := blk_frozen BK227.out 4
   have hns29_0 := NB212_227.out
   have hms29_0 := NB227_212.out
   have hs30 : w23.cell? ⟨gb227, 5, none⟩ = some (.slice Ao19 t223.length co19) := (blk_cell BK227.out 5).trans rfl
   have hfs30 := blk_frozen BK227.out 5
   have hns30_0 := NB212_227.out
   have hms30_0 := NB227_212.out
   refine skip_ (w1 := ?_) (by rfl) rfl ?_ ?_
   rotate_left
   ·go_simp
    rfl
   refine hK.out _ _ ?_
   clear hK K
   refine done_ (done_of HT_.out (by kernel_rfl)) ?_
   try go_wp2
   have n0_ : Aside0 (Kd.N k41 41 ((((((w23.setCell ⟨gb227, 0, none⟩ (.bool t218)).setCell ⟨gb227, 1, none⟩ (.bool false)).setCell ⟨gb227, 2, none⟩ (.int .i64 255)).setCell ⟨gb227, 3, none⟩ (.int .i64 0)).setCell ⟨gb227, 4, none⟩ (.int .i64 0)).setCell ⟨gb227, 5, none⟩ (.slice Ao24 t232.length co24)) w.heap.size (fun k_ => (w.heap.size ≤ k_) ∧ some k_ ≠ (.slice Ao24 t232.length co24 : Value).ownBlock ∧ k_ ≠ gb212 ∧ k_ ≠ g215 ∧ k_ ≠ gb227) (.slice Ao19 t223.length co19) t223) := ⟨tNm HO225.out⟩
   have n1_ : Aside0 (Kd.N k41 41 ((((((w23.setCell ⟨gb227, 0, none⟩ (.bool t218)).setCell ⟨gb227, 1, none⟩ (.bool false)).setCell ⟨gb227, 2, none⟩ (.int .i64 255)).setCell ⟨gb227, 3, none⟩ (.int .i64 0)).setCell ⟨gb227, 4, none⟩ (.int .i64 0)).setCell ⟨gb227, 5, none⟩ (.slice Ao24 t232.length co24)) w.heap.size (fun k_ => (w.heap.size ≤ k_) ∧ some k_ ≠ (.slice Ao19 t223.length co19 : Value).ownBlock ∧ k_ ≠ gb212 ∧ k_ ≠ gb227 ∧ k_ ≠ g215) (.slice Ao24 t232.length co24) t232) := ⟨tNm HO234.out⟩
   have n2_ : Aside0 (((((((w23.setCell ⟨gb227, 0, none⟩ (.bool t218)).setCell ⟨gb227, 1, none⟩ (.bool false)).setCell ⟨gb227, 2, none⟩ (.int .i64 255)).setCell ⟨gb227, 3, none⟩ (.int .i64 0)).setCell ⟨gb227, 4, none⟩ (.int .i64 0)).setCell ⟨gb227, 5, none⟩ (.slice Ao24 t232.length co24)).heap[gb212]? = some (.cells #[.bool false, .bool false, .int .i64 0, .int .i64 0, .int .i64 0, .slice none 0 0] 25 (0, 0))) := ⟨tH BK212.out⟩
   have n3_ : Aside0 (((((((w23.setCell ⟨gb227, 0, none⟩ (.bool t218)).setCell ⟨gb227, 1, none⟩ (.bool false)).setCell ⟨gb227, 2, none⟩ (.int .i64 255)).setCell ⟨gb227, 3, none⟩ (.int .i64 0)).setCell ⟨gb227, 4, none⟩ (.int .i64 0)).setCell ⟨gb227, 5, none⟩ (.slice Ao24 t232.length co24)).heap[gb227]? = some (.cells #[.bool t218, .bool false, .int .i64 255, .int .i64 0, .int .i64 0, .slice Ao24 t232.length co24] 25 (0, 0))) := ⟨tP BK227.out⟩
   have n4_ : Aside0 (IsS72 w ((((((w23.setCell ⟨gb227, 0, none⟩ (.bool t218)).setCell ⟨gb227, 1, none⟩ (.bool false)).setCell ⟨gb227, 2, none⟩ (.int .i64 255)).setCell ⟨gb227, 3, none⟩ (.int .i64 0)).setCell ⟨gb227, 4, none⟩ (.int .i64 0)).setCell ⟨gb227, 5, none⟩ (.slice Ao24 t232.length co24)) g215 t213 t235) := ⟨by repeat (first | (with_reducible first | exact HI215.out | apply IsS72.alloc | apply IsS72.drewN | apply IsS72.drew | apply IsS72.set_1 | refine IsS72.far ?_ NB215_212.out _ | refine IsS72.far ?_ NB215_227.out _) | exact HI215.out)⟩
   have n5_ : Aside0 (Below w.heap.size w ((((((w23.setCell ⟨gb227, 0, none⟩ (.bool t218)).setCell ⟨gb227, 1, none⟩ (.bool false)).setCell ⟨gb227, 2, none⟩ (.int .i64 255)).setCell ⟨gb227, 3, none⟩ (.int .i64 0)).setCell ⟨gb227, 4, none⟩ (.int .i64 0)).setCell ⟨gb227, 5, none⟩ (.slice Ao24 t232.length co24))) := ⟨by repeat (first | (with_reducible first | exact HB.out | apply below_alloc | apply pw_below_drewN | apply below_drew1 | refine below_set ?_ (IsS72.ge HI215.out) | refine below_set ?_ GE212.out | refine below_set ?_ GE227.out) | exact HB.out)⟩
   (try clear HO225)
   (try clear HO234)
   (try clear BK212)
   (try clear BK227)
   (try clear HI215)
   (try clear HB)
   generalize ((((((w23.setCell ⟨gb227, 0, none⟩ (.bool t218)).setCell ⟨gb227, 1, none⟩ (.bool false)).setCell ⟨gb227, 2, none⟩ (.int .i64 255)).setCell ⟨gb227, 3, none⟩ (.int .i64 0)).setCell ⟨gb227, 4, none⟩ (.int .i64 0)).setCell ⟨gb227, 5, none⟩ (.slice Ao24 t232.length co24)) = w31 at n0_ n1_ n2_ n3_ n4_ n5_ ⊢
   have HO225 := n0_
   have HO234 := n1_
   have BK212 := n2_
   have BK227 := n3_
   have HI215 := n4_
   have HB := n5_
   clear n0_ n1_ n2_ n3_ n4_ n5_
   replace HO225 := Aside0.mk (Kd.N_drew HO225.out)
   replace HO234 := Aside0.mk (Kd.N_drew HO234.out)
   replace BK212 := Aside0.mk (blk_drew BK212.out)
   replace BK227 := Aside0.mk (blk_drew BK227.out)
   replace HI215 := Aside0.mk (IsS72.drew HI215.out)
   replace HB := Aside0.mk (below_drew1 HB.out)
   have p236 : 0 ≤ (0 : Int) := (by omega)
   have q236 : 0 < (t232.length : Int) := td
   obtain ⟨ad236, A236_3, c236_3, A236_5, c236_5, e236, hx236_0, hx236_1, hx236_2, hx236_3, hx236_4, hx236_5, hl236_3, hi236_3, hl236_5, hi236_5⟩ := at_T41 (Kd.N_reads' HO234.out).2.2 0 p236 q236
   cases e236
   obtain ⟨ce236, hce236, hMe236, hcc236⟩ := Kd.N_get HO234.out z41 0 p236 (by first | exact q236 | exact td | (have e_ := (Kd.N_reads' HO234.out).1; omega))
   obtain ⟨ua236_3, uc236_3, ua236_5, uc236_5, rfl, ul236_3, ge236_3, ul236_5, ge236_5⟩ := k41_openF hMe236
   have hv236_3 := hcc236 3 _ rfl
   rw [add_field _ _ 3 (by omega)] at hv236_3
   replace hv236_3 := Option.some.inj (hv236_3.symm.trans hx236_3)
   injection hv236_3 with hva_ hvn_ hvc_
   rw [hva_] at ge236_3
   rw [hvc_] at ul236_3
   have HL236_3 := Aside0.mk (show Kd.V (Kd.int .i64) 3 _ w.heap.size _ _ ((rd_T41 t232 0).f3) from Kd.V_mk ul236_3 ge236_3)
   clear hva_ hvn_ hvc_ ge236_3 ul236_3
   have hv236_5 := hcc236 5 _ rfl
   rw [add_field _ _ 5 (by omega)] at hv236_5
   replace hv236_5 := Option.some.inj (hv236_5.symm.trans hx236_5)
   injection hv236_5 with hva_ hvn_ hvc_
   rw [hva_] at ge236_5
   rw [hvc_] at ul236_5
   have HL236_5 := Aside0.mk (show Kd.V (Kd.int .i64) 3 _ w.heap.size _ _ ((rd_T41 t232 0).f5) from Kd.V_mk ul236_5 ge236_5)
   clear hva_ hvn_ hvc_ ge236_5 ul236_5
   clear hcc236 hce236
   have qi236 : (0 < t232.length) = True := eq_true (by omega)
   (try rw [show ((0 : Int)).toNat = 0 from rfl] at hx236_0)
   (try rw [show 0 * 6 = 0 from rfl] at hx236_0)
   (try rw [Addr.add_zero'] at hx236_0)
   (try rw [show ((0 : Int)).toNat = 0 from rfl] at hx236_1)
   (try rw [show 0 * 6 = 0 from rfl] at hx236_1)
   (try rw [Addr.add_zero'] at hx236_1)
   (try rw [show ((0 : Int)).toNat = 0 from rfl] at hx236_2)
   (try rw [show 0 * 6 = 0 from rfl] at hx236_2)
   (try rw [Addr.add_zero'] at hx236_2)
   (try rw [show ((0 : Int)).toNat = 0 from rfl] at hx236_3)
   (try rw [show 0 * 6 = 0 from rfl] at hx236_3)
   (try rw [Addr.add_zero'] at hx236_3)
   (try rw [show ((0 : Int)).toNat = 0 from rfl] at hx236_4)
   (try rw [show 0 * 6 = 0 from rfl] at hx236_4)
   (try rw [Addr.add_zero'] at hx236_4)
   (try rw [show ((0 : Int)).toNat = 0 from rfl] at hx236_5)
   (try rw [show 0 * 6 = 0 from rfl] at hx236_5)
   (try rw [Addr.add_zero'] at hx236_5)
   have HR236_3 := Aside0.mk hi236_3
   have HC236_3 := Aside0.mk hl236_3
   clear hi236_3 hl236_3
   have HR236_5 := Aside0.mk hi236_5
   have HC236_5 := Aside0.mk hl236_5
   clear hi236_5 hl236_5
   replace p236 := eq_true p236
   replace q236 := eq_true q236
   refine start_ (n := 15) (S := fun w' => w'.cell? ⟨gb227, 0, none⟩ = some (.bool t218) ∧ w'.cell? ⟨gb227, 1, none⟩ = some (.bool false) ∧ w'.cell? ⟨gb227, 2, none⟩ = some (.int .i64 255) ∧ w'.cell? ⟨gb227, 3, none⟩ = some (.int .i64 0) ∧ w'.cell? ⟨gb227, 4, none⟩ = some (.int .i64 0) ∧ w'.cell? ⟨gb227, 5, none⟩ = some (.slice (some ad236) t232.length co24) ∧ w'.cell? ad236 = some (.int .i64 ((rd_T41 t232 0).f0)) ∧ w'.cell? ⟨ad236.block, ad236.off + 1, none⟩ = some (.int .i64 ((rd_T41 t232 0).f1)) ∧ w'.cell? ⟨ad236.block, ad236.off + 2, none⟩ = some (.bool ((rd_T41 t232 0).f2)) ∧ w'.cell? ⟨ad236.block, ad236.off + 3, none⟩ = some (.slice A236_3 ((rd_T41 t232 0).f3).length c236_3) ∧ w'.cell? ⟨ad236.block, ad236.off + 4, none⟩ = some (.bool ((rd_T41 t232 0).f4)) ∧ w'.cell? ⟨ad236.block, ad236.off + 5, none⟩ = some (.slice A236_5 ((rd_T41 t232 0).f5).length c236_5)) (ds := []) #[false, false, false, false, false, false, false, false, false, false, false, false, false, false, false] (by kernel_rfl) rfl rfl ⟨(blk_cell BK227.out 0).trans rfl, (blk_cell BK227.out 1).trans rfl, (blk_cell BK227.out 2).trans rfl, (blk_cell BK227.out 3).trans rfl, (blk_cell BK227.out 4).trans rfl, (blk_cell BK227.out 5).trans rfl, hx236_0, hx236_1, hx236_2, hx236_3, hx236_4, hx236_5⟩ (fun hHeld => ?_); refine with_tabW spec_DrawBatchCut.tab5 spec_DrawBatchCut.bits5 (fun HT_ HW_ => ?_)
   generalize w31.drew = w32 at HO225 HO234 BK212 BK227 HI215 HB HL236_3 HL236_5 HR236_3 HR236_5 hx236_0 hx236_1 hx236_2 hx236_3 hx236_4 hx236_5 hHeld ⊢
   refine pure_ (i := 1) (N := some 23) (v := ?_) (a' := ?_) #[false, true, false, false, false, false, false, false, false, false, false, false, false, false, false] rfl rfl (any_of HT_.out (by kernel_rfl)) (fun _ _ _ h => h) (Or.inl ⟨by rfl, ?_⟩) ?_ ?_
   rotate_left
   ·intro w'
    go_simp
    with_reducible rfl
   rotate_left
   ·simp only [Act.put, List.setIfInBounds_toArray, List.set_cons_zero, List.set_cons_succ, i64_w, i32_w]
    rfl
   refine pure_ (i := 6) (N := some 28) (v := ?_) (a' := ?_) #[false, true, false, false, false, false, true, false, false, false, false, false, false, false, false] rfl rfl (any_of HT_.out (by kernel_rfl)) (fun _ _ _ h => h) (Or.inl ⟨by rfl, ?_⟩) ?_ ?_
   rotate_left
   ·intro w'
    go_simp
    with_reducible rfl
   rotate_left
   ·simp only [Act.put, List.setIfInBounds_toArray, List.set_cons_zero, List.set_cons_succ, i64_w, i32_w]
    rfl
   refine pure_ (i := 7) (N := some 29) (v := ?_) (a' := ?_) #[false, true, false, false, false, false, true, true, false, false, false, false, false, false, false] rfl rfl (any_of HT_.out (by kernel_rfl)) (fun _ _ _ h => h) (Or.inl ⟨by rfl, ?_⟩) ?_ ?_
   rotate_left
   ·intro w'
    go_simp
    with_reducible rfl
   rotate_left
   ·simp only [Act.put, List.setIfInBounds_toArray, List.set_cons_zero, List.set_cons_succ, i64_w, i32_w]
    rfl
   refine take_ (i := 0) (N := some 22) (v := ?_) (a' := ?_) #[true, true, false, false, false, false, true, true, false, false, false, false, false, false, false] rfl rfl (take_ofW HT_.out HW_.out (by kernel_rfl)) (fun _ _ _ h => h) (Or.inl ⟨by rfl, ?_⟩) hHeld ?_ ?_
   rotate_left
   ·rintro w' ⟨s0, s1, s2, s3, s4, s5, s6, s7, s8, s9, s10, s11⟩
    go_simp
    with_reducible rfl
   rotate_left
   ·simp only [Act.put, List.setIfInBounds_toArray, List.set_cons_zero, List.set_cons_succ, i64_w, i32_w]
    rfl
   refine take_ (i := 2) (N := some 24) (v := ?_) (a' := ?_) #[true, true, true, false, false, false, true, true, false, false, false, false, false, false, false] rfl rfl (take_ofW HT_.out HW_.out (by kernel_rfl)) (fun _ _ _ h => h) (Or.inl ⟨by rfl, ?_⟩) hHeld ?_ ?_
   rotate_left
   ·rintro w' ⟨s0, s1, s2, s3, s4, s5, s6, s7, s8, s9, s10, s11⟩
    go_simp
    with_reducible rfl
   rotate_left
   ·simp only [Act.put, List.setIfInBounds_toArray, List.set_cons_zero, List.set_cons_succ, i64_w, i32_w]
    rfl
   refine pure_ (i := 3) (N := some 25) (v := ?_) (a' := ?_) #[true, true, true, true, false, false, true, true, false, false, false, false, false, false, false] rfl rfl (any_of HT_.out (by kernel_rfl)) (fun _ _ _ h => h) (Or.inl ⟨by rfl, ?_⟩) ?_ ?_
   rotate_left
   ·intro w'
    go_simp
    with_reducible rfl
   rotate_left
   ·simp only [Act.put, List.setIfInBounds_toArray, List.set_cons_zero, List.set_cons_succ, i64_w, i32_w]
    rfl
   refine pure_ (i := 4) (N := some 26) (v := ?_) (a' := ?_) #[true, true, true, true, true, false, true, true, false, false, false, false, false, false, false] rfl rfl (any_of HT_.out (by kernel_rfl)) (fun _ _ _ h => h) (Or.inl ⟨by rfl, ?_⟩) ?_ ?_
   rotate_left
   ·intro w'
    go_simp
    with_reducible rfl
   rotate_left
   ·simp only [Act.put, List.setIfInBounds_toArray, List.set_cons_zero, List.set_cons_succ, i64_w, i32_w]
    rfl
   refine take_ (i := 5) (N := some 27) (v := ?_) (a' := ?_) #[true, true, true, true, true, true, true, true, false, false, false, false, false, false, false] rfl rfl (take_ofW HT_.out HW_.out (by kernel_rfl)) (fun _ _ _ h => h) (Or.inl ⟨by rfl, ?_⟩) hHeld ?_ ?_
   rotate_left
   ·rintro w' ⟨s0, s1, s2, s3, s4, s5, s6, s7, s8, s9, s10, s11⟩
    go_simp
    with_reducible rfl
   rotate_left
   ·simp only [Act.put, List.setIfInBounds_toArray, List.set_cons_zero, List.set_cons_succ, i64_w, i32_w]
    rfl
   refine take_ (i := 8) (N := some 30) (v := ?_) (a' := ?_) #[true, true, true, true, true, true, true, true, true, false, false, false, false, false, false] rfl rfl (take_ofW HT_.out HW_.out (by kernel_rfl)) (fun _ _ _ h => h) (Or.inl ⟨by rfl, ?_⟩) hHeld ?_ ?_
   rotate_left
   ·rintro w' ⟨s0, s1, s2, s3, s4, s5, s6, s7, s8, s9, s10, s11⟩
    go_simp
    with_reducible rfl
   rotate_left
   ·simp only [Act.put, List.setIfInBounds_toArray, List.set_cons_zero, List.set_cons_succ, i64_w, i32_w]
    rfl
   refine pure_ (i := 9) (N := some 31) (v := ?_) (a' := ?_) #[true, true, true, true, true, true, true, true, true, true, false, false, false, false, false] rfl rfl (any_of HT_.out (by kernel_rfl)) (fun _ _ _ h => h) (Or.inl ⟨by rfl, ?_⟩) ?_ ?_
   rotate_left
   ·intro w'
    go_simp
    with_reducible rfl
   rotate_left
   ·simp only [Act.put, List.setIfInBounds_toArray, List.set_cons_zero, List.set_cons_succ, i64_w, i32_w]
    rfl
   refine pure_ (i := 10) (N := some 32) (v := ?_) (a' := ?_) #[true, true, true, true, true, true, true, true, true, true, true, false, false, false, false] rfl rfl (any_of HT_.out (by kernel_rfl)) (fun _ _ _ h => h) (Or.inl ⟨by rfl, ?_⟩) ?_ ?_
   rotate_left
   ·intro w'
    go_simp
    with_reducible rfl
   rotate_left
   ·simp only [Act.put, List.setIfInBounds_toArray, List.set_cons_zero, List.set_cons_succ, i64_w, i32_w]
    rfl
   refine one_ (i := 11) (N := some 33) #[true, true, true, true, true, true, true, true, true, true, true, true, false, false, false] rfl rfl (one_of HT_.out (by kernel_rfl)) (by decide) (fun K hK => ?_)
   refine goes_ Tryd.func24 (by kernel_rfl) rfl #[.pointer (some ⟨g215, 0, none⟩), .int .i64 (wrap64 ((t232.length : Int) + 1))] (by rfl) rfl rfl tq ?_
   with_reducible refine (spec_l6Rd_pick.calls k g215 t213 t235 (wrap64 ((t232.length : Int) + 1)) t237 t238 w _ ?side1 ?side2 A10.out).mono ?_
   (case side1 => repeat (first | (with_reducible first | exact HI215.out | apply IsS72.alloc | apply IsS72.drewN | apply IsS72.drew | apply IsS72.set_1 | refine IsS72.far ?_ NB215_212.out _ | refine IsS72.far ?_ NB215_227.out _) | exact HI215.out))
   (case side2 => repeat (first | (with_reducible first | exact HB.out | apply below_alloc | apply pw_below_drewN | apply below_drew1 | refine below_set ?_ (IsS72.ge HI215.out) | refine below_set ?_ GE212.out | refine below_set ?_ GE227.out) | exact HB.out))
   rintro e w33 ⟨rfl, hi, hb, hk⟩
   have HS6_ := keep_cell hk (hHeld.2.2.2.2.2.2.1) (tow (Kd.own_blk (IsS72.own_neN HI215.out HO234.out (by decide))))
   have HS7_ := keep_cell hk (hHeld.2.2.2.2.2.2.2.1) (tow (Kd.own_blk (IsS72.own_neN HI215.out HO234.out (by decide))))
   have HS8_ := keep_cell hk (hHeld.2.2.2.2.2.2.2.2.1) (tow (Kd.own_blk (IsS72.own_neN HI215.out HO234.out (by decide))))
   have HS9_ := keep_cell hk (hHeld.2.2.2.2.2.2.2.2.2.1) (tow (Kd.own_blk (IsS72.own_neN HI215.out HO234.out (by decide))))
   have HS10_ := keep_cell hk (hHeld.2.2.2.2.2.2.2.2.2.2.1) (tow (Kd.own_blk (IsS72.own_neN HI215.out HO234.out (by decide))))
   have HS11_ := keep_cell hk (hHeld.2.2.2.2.2.2.2.2.2.2.2) (tow (Kd.own_blk (IsS72.own_neN HI215.out HO234.out (by decide))))
   refine ⟨_, rfl, ?_⟩
   replace BK212 := tBk BK212 hk NB212_215
   replace HO225 := tNk HO225 hk
   replace BK227 := tBk BK227 hk NB227_215
   replace HO234 := tNk HO234 hk
   replace HL236_3 := tVk HL236_3 hk
   replace HL236_5 := tVk HL236_5 hk
   replace HB := Aside0.mk (hb)
   replace HI215 := Aside0.mk (hi)
   (try clear hb)
   (try clear hb2)
   (try clear hk)
   (try clear hi)
   refine hK.out _ _ ⟨(blk_cell BK227.out 0).trans rfl, (blk_cell BK227.out 1).trans rfl, (blk_cell BK227.out 2).trans rfl, (blk_cell BK227.out 3).trans rfl, (blk_cell BK227.out 4).trans rfl, (blk_cell BK227.out 5).trans rfl, HS6_, HS7_, HS8_, HS9_, HS10_, HS11_⟩ (fun hHeld => ?_)
   clear hK K
   refine norm_ (a' := ?_) ?_ ?_
   rotate_left
   ·show Act.put _ (some 33) _ = _
    simp only [Act.put, List.setIfInBounds_toArray, List.set_cons_zero, List.set_cons_succ, i64_w, i32_w]
    rfl
   refine pure_ (i := 12) (N := some 34) (v := ?_) (a' := ?_) #[true, true, true, true, true, true, true, true, true, true, true, true, true, false, false] rfl rfl (any_of HT_.out (by kernel_rfl)) (fun _ _ _ h => h) (Or.inl ⟨by rfl, ?_⟩) ?_ ?_
   rotate_left
   ·intro w'
    go_simp
    with_reducible rfl
   rotate_left
   ·simp only [Act.put, List.setIfInBounds_toArray, List.set_cons_zero, List.set_cons_succ, i64_w, i32_w]
    rfl
   refine one_ (i := 13) (N := none) #[true, true, true, true, true, true, true, true, true, true, true, true, true, true, false] rfl rfl (one_of HT_.out (by kernel_rfl)) (by decide) (fun K hK => ?_)
   have hs34 : w33.cell? ⟨gb212, 0, none⟩ = some (.bool false) := (blk_cell BK212.out 0).trans rfl
   have hfs34 := blk_frozen BK212.out 0
   have hns34_1 := NB227_212.out
   have hms34_1 := NB212_227.out
   have hs35 : w33.cell? ⟨gb212, 1, none⟩ = some (.bool false) := (blk_cell BK212.out 1).trans rfl
   have hfs35 := blk_frozen BK212.out 1
   have hns35_1 := NB227_212.out
   have hms35_1 := NB212_227.out
   have hs36 : w33.cell? ⟨gb212, 2, none⟩ = some (.int .i64 0) := (blk_cell BK212.out 2).trans rfl
   have hfs36 := blk_frozen BK212.out 2
   have hns36_1 := NB227_212.out
   have hms36_1 := NB212_227.out
   have hs37 : w33.cell? ⟨gb212, 3, none⟩ = some (.int .i64 0) := (blk_cell BK212.out 3).trans rfl
   have hfs37 := blk_frozen BK212.out 3
   have hns37_1 := NB227_212.out
   have hms37_1 := NB212_227.out
   have hs38 : w33.cell? ⟨gb212, 4, none⟩ = some (.int .i64 0) := (blk_cell BK212.out 4).trans rfl
   have hfs38 := blk_frozen BK212.out 4
   have hns38_1 := NB227_212.out
   have hms38_1 := NB212_227.out
   have hs39 : w33.cell? ⟨gb212, 5, none⟩ = some (.slice none 0 0) := (blk_cell BK212.out 5).trans rfl
   have hfs39 := blk_frozen BK212.out 5
   have hns39_1 := NB227_212.out
   have hms39_1 := NB212_227.out
   refine skip_ (w1 := ?_) (by rfl) rfl ?_ ?_
   rotate_left
   ·go_simp
    rfl
   refine hK.out _ _ ⟨(tcg NB227_212.out hHeld.1), (tcg NB227_212.out hHeld.2.1), (tcg NB227_212.out hHeld.2.2.1), (tcg NB227_212.out hHeld.2.2.2.1), (tcg NB227_212.out hHeld.2.2.2.2.1), (tcg NB227_212.out hHeld.2.2.2.2.2.1), (tcg (Kd.own_blk (Kd.N_away HO234.out (fun _ hk => hk.2.2.1))) hHeld.2.2.2.2.2.2.1), (tcg (Kd.own_blk (Kd.N_away HO234.out (fun _ hk => hk.2.2.1))) hHeld.2.2.2.2.2.2.2.1), (tcg (Kd.own_blk (Kd.N_away HO234.out (fun _ hk => hk.2.2.1))) hHeld.2.2.2.2.2.2.2.2.1), (tcg (Kd.own_blk (Kd.N_away HO234.out (fun _ hk => hk.2.2.1))) hHeld.2.2.2.2.2.2.2.2.2.1), (tcg (Kd.own_blk (Kd.N_away HO234.out (fun _ hk => hk.2.2.1))) hHeld.2.2.2.2.2.2.2.2.2.2.1), (tcg (Kd.own_blk (Kd.N_away HO234.out (fun _ hk => hk.2.2.1))) hHeld.2.2.2.2.2.2.2.2.2.2.2)⟩ (fun hHeld => ?_)
   clear hK K
   refine pure_ (i := 14) (N := some 3) (v := ?_) (a' := ?_) #[true, true, true, true, true, true, true, true, true, true, true, true, true, true, true] rfl rfl (any_of HT_.out (by kernel_rfl)) (fun _ _ _ h => h) (Or.inl ⟨by rfl, ?_⟩) ?_ ?_
   rotate_left
   ·intro w'
    go_simp
    with_reducible rfl
   rotate_left
   ·simp only [Act.put, List.setIfInBounds_toArray, List.set_cons_zero, List.set_cons_succ, i64_w, i32_w]
    rfl
   refine done_ (done_of HT_.out (by kernel_rfl)) ?_
   try go_wp2
   refine bodyPost_ret (results_ct rfl _ _ gb212 25 #[.bool t218, .bool false, .int .i64 255, .int .i64 0, .int .i64 0, .slice (some ad236) t232.length co24] (0, 0) _ rfl (tP BK212.out) Tryd.underlying25 rfl (by kernel_rfl)) rfl ?_
   exact ⟨_, by first | rfl | (simp [errW_none, errW_some] <;> rfl) | (simp [*, errW_none, errW_some] <;> rfl), tNm HO234.out, by repeat (first | (with_reducible first | exact HB.out | apply below_alloc | apply pw_below_drewN | apply below_drew1 | refine below_set ?_ (IsS72.ge HI215.out) | refine below_set ?_ GE212.out | refine below_set ?_ GE227.out) | exact HB.out)⟩
  ·rw [if_neg c9] at H
   exact absurd H (by simp)
 ·rw [if_neg c6] at H
  have c6b0 : decide (0 < t228) = false := decide_eq_false c6
  clear c6
  by_cases c40 : 0 < (t223.length : Int)
  ·rw [if_pos c40] at H
   have c40b0 : decide (0 < (t223.length : Int)) = true := decide_eq_true c40
   have c40b1 : decide (0 < t223.length) = true := decide_eq_true (by omega)
   clear c40
   replace H := tbe H
   obtain ⟨⟨t240, t241⟩, A41, H⟩ := H
   dsimp only at H
   simp only [Option.some.injEq, Prod.mk.injEq] at H
   obtain ⟨rfl, rfl, rfl, rfl, rfl, rfl, rfl⟩ := H
   go_enter Tryd.func8, Tryd.ntmps8
   try go_wp2_with (first | ((with_reducible refine gate_dst (N := 2) rfl ?_); refine box_event ?hg (N := 2) ?hd (cs := #[.bool false, .bool false, .int .i64 0, .int .i64 0, .int .i64 0, .slice none 0 0]) (t := 25) ?hr ?_; (case hd => rfl); (case hg => rfl); (case hr => first | (go_simp; done) | (go_simp; rfl)); intro gb212 hg w42 hbox hb; have BK212 := Aside0.mk (hbox); have GW212 := tge HB hg; have GE212 := tge HB hg; replace HB := tBs HB hb; clear hb hbox hg) | ((with_reducible refine gate_callee (f := 22) rfl ?_); refine goesL_ (some 7) rfl rfl Tryd.func22 (by kernel_rfl) rfl #[.slice A0 l0.length c0] rfl tq ?_; (with_reducible refine (spec_l6Open.calls _ _ l0 t213 t214 w _ ?side1 ?side2 ?side3 A2.out).mono ?_); (case side1 => exact zb); (case side2 => exact HR0.out); (case side3 => exact HC0.out); rintro e w43 ⟨g215, rfl, hi, hb, hb2⟩; refine ⟨_, rfl, ?_⟩; replace HB := Aside0.mk (hb); have HI215 := Aside0.mk (hi); have NB215_212 := Aside0.mk (IsS72.ne_blk hi (blk_below (g := gb212) (o := .cells #[.bool false, .bool false, .int .i64 0, .int .i64 0, .int .i64 0, .slice none 0 0] 25 (0, 0)) (tH BK212.out) hb2) (by decide)); have NB212_215 := Aside0.mk (Ne.symm (IsS72.ne_blk hi (blk_below (g := gb212) (o := .cells #[.bool false, .bool false, .int .i64 0, .int .i64 0, .int .i64 0, .slice none 0 0] 25 (0, 0)) (tH BK212.out) hb2) (by decide))); replace BK212 := Aside0.mk (blk_below (g := gb212) (o := .cells #[.bool false, .bool false, .int .i64 0, .int .i64 0, .int .i64 0, .slice none 0 0] 25 (0, 0)) (tH BK212.out) hb2); (try clear hb); (try clear hb2); (try clear hk); (try clear hi)) | ((with_reducible refine gate_callee (f := 24) rfl ?_); refine goesL_ (some 10) rfl rfl Tryd.func24 (by kernel_rfl) rfl #[.pointer (some ⟨g215, 0, none⟩), .int .i64 40] rfl tq ?_; (with_reducible refine (spec_l6Rd_pick.calls k g215 t213 t214 40 t216 t217 w _ ?side1 ?side2 A3.out).mono ?_); (case side1 => repeat (first | (with_reducible first | exact HI215.out | apply IsS72.alloc | apply IsS72.drewN | apply IsS72.drew | apply IsS72.set_1 | refine IsS72.far ?_ NB215_212.out _) | exact HI215.out)); (case side2 => repeat (first | (with_reducible first | exact HB.out | apply below_alloc | apply pw_below_drewN | apply below_drew1 | refine below_set ?_ (IsS72.ge HI215.out) | refine below_set ?_ GE212.out) | exact HB.out)); rintro e w44 ⟨rfl, hi, hb, hk⟩; refine ⟨_, rfl, ?_⟩; replace BK212 := tBk BK212 hk NB212_215; replace HB := Aside0.mk (hb); replace HI215 := Aside0.mk (hi); (try clear hb); (try clear hb2); (try clear hk); (try clear hi)) | ((with_reducible refine gate_callee (f := 23) rfl ?_); refine goesL_ (some 11) rfl rfl Tryd.func23 (by kernel_rfl) rfl #[.pointer (some ⟨g215, 0, none⟩), .int .i64 t216] rfl tq ?_; (with_reducible refine (spec_l91Batch.calls k g215 t213 t217 t216 t218 t219 t220 t221 t222 t223 t226 w _ ?side1 ?side2 A4.out).mono ?_); (case side1 => repeat (first | (with_reducible first | exact HI215.out | apply IsS72.alloc | apply IsS72.drewN | apply IsS72.drew | apply IsS72.set_1 | refine IsS72.far ?_ NB215_212.out _) | exact HI215.out)); (case side2 => repeat (first | (with_reducible first | exact HB.out | apply below_alloc | apply pw_below_drewN | apply below_drew1 | refine below_set ?_ (IsS72.ge HI215.out) | refine below_set ?_ GE212.out) | exact HB.out)); rintro e w45 ⟨v224, rfl, ho0, hi, hb, hk⟩; have u_v224 := tsv Tryd.prog v224 ho0; refine ⟨_, rfl, ?_⟩; have HO225 := Aside0.mk (Kd.N_lower (Kd.N_mono (ok' := fun k_ => (w.heap.size ≤ k_) ∧ k_ ≠ gb212 ∧ k_ ≠ g215) ho0 (fun k_ hk_ => ⟨(Nat.le_trans (below_size (by repeat (first | (with_reducible first | exact HB.out | apply below_alloc | apply pw_below_drewN | apply below_drew1 | refine below_set ?_ (IsS72.ge HI215.out) | refine below_set ?_ GE212.out) | exact HB.out))) hk_), (tfB BK212 k_ hk_), (IsS72.fresh (by repeat (first | (with_reducible first | exact HI215.out | apply IsS72.alloc | apply IsS72.drewN | apply IsS72.drew | apply IsS72.set_1 | refine IsS72.far ?_ NB215_212.out _) | exact HI215.out)) k_ hk_)⟩)) (below_size (by repeat (first | (with_reducible first | exact HB.out | apply below_alloc | apply pw_below_drewN | apply below_drew1 | refine below_set ?_ (IsS72.ge HI215.out) | refine below_set ?_ GE212.out) | exact HB.out)))); replace BK212 := tBk BK212 hk NB212_215; replace HB := Aside0.mk (hb); replace HI215 := Aside0.mk (hi); (try clear hb); (try clear hb2); (try clear hk); (try clear hi); (try clear ho0)) | ((with_reducible refine gate_dst (N := 5) rfl ?_); refine box_event ?hg (N := 5) ?hd (cs := #[.bool false, .bool false, .int .i64 0, .int .i64 0, .int .i64 0, .slice none 0 0]) (t := 25) ?hr ?_; (case hd => rfl); (case hg => rfl); (case hr => first | (go_simp; done) | (go_simp; rfl)); intro gb227 hg w46 hbox hb; replace HO225 := tNB HO225 hg hb; have BK227 := Aside0.mk (hbox); have GW227 := Aside0.mk ((by rw [hg]; exact (below_size (by repeat (first | (with_reducible first | exact HB.out | apply below_alloc | apply pw_below_drewN | apply below_drew1 | refine below_set ?_ (IsS72.ge HI215.out) | refine below_set ?_ GE212.out) | exact HB.out))) : w.heap.size ≤ gb227)); have GE227 := Aside0.mk ((by rw [hg]; exact (below_size (by repeat (first | (with_reducible first | exact HB.out | apply below_alloc | apply pw_below_drewN | apply below_drew1 | refine below_set ?_ (IsS72.ge HI215.out) | refine below_set ?_ GE212.out) | exact HB.out))) : w.heap.size ≤ gb227)); replace HB := Aside0.mk (below_step (by repeat (first | (with_reducible first | exact HB.out | apply below_alloc | apply pw_below_drewN | apply below_drew1 | refine below_set ?_ (IsS72.ge HI215.out) | refine below_set ?_ GE212.out) | exact HB.out)) hb); have NB212_227 := tlt BK212 hg; have NB227_212 := tgt BK212 hg; replace BK212 := tBb BK212 hb; have NB215_227 := Aside0.mk ((by rw [hg]; exact Nat.ne_of_lt (IsS72.lt (show IsS72 w _ g215 t213 t226 from by repeat (first | (with_reducible first | exact HI215.out | apply IsS72.alloc | apply IsS72.drewN | apply IsS72.drew | apply IsS72.set_1 | refine IsS72.far ?_ NB215_212.out _) | exact HI215.out))) : g215 ≠ gb227)); have NB227_215 := Aside0.mk ((by rw [hg]; exact Nat.ne_of_gt (IsS72.lt (show IsS72 w _ g215 t213 t226 from by repeat (first | (with_reducible first | exact HI215.out | apply IsS72.alloc | apply IsS72.drewN | apply IsS72.drew | apply IsS72.set_1 | refine IsS72.far ?_ NB215_212.out _) | exact HI215.out))) : gb227 ≠ g215)); replace HI215 := Aside0.mk (IsS72.below (by repeat (first | (with_reducible first | exact HI215.out | apply IsS72.alloc | apply IsS72.drewN | apply IsS72.drew | apply IsS72.set_1 | refine IsS72.far ?_ NB215_212.out _) | exact HI215.out)) hb); clear hb hbox hg; have hnb47 := NB227_212.out; have hnc47 := NB212_227.out; have hnb48 := NB227_215.out; have hnc48 := NB215_227.out; obtain ⟨hcz49_0, hcz49_1, hcz49_2, hcz49_3, hcz49_4, hcz49_5, hfz49_0, hfz49_1, hfz49_2, hfz49_3, hfz49_4, hfz49_5⟩ := cells6 BK227.out; obtain ⟨Ao50, co50, eo50⟩ := Kd.N_slice HO225.out; subst eo50) | ((with_reducible refine gate_callee (f := 24) rfl ?_); refine goesL_ (some 13) rfl rfl Tryd.func24 (by kernel_rfl) rfl #[.pointer (some ⟨g215, 0, none⟩), .int .i64 3] rfl tq ?_; (with_reducible refine (spec_l6Rd_pick.calls k g215 t213 t226 3 t228 t229 w _ ?side1 ?side2 A5.out).mono ?_); (case side1 => repeat (first | (with_reducible first | exact HI215.out | apply IsS72.alloc | apply IsS72.drewN | apply IsS72.drew | apply IsS72.set_1 | refine IsS72.far ?_ NB215_212.out _ | refine IsS72.far ?_ NB215_227.out _) | exact HI215.out)); (case side2 => repeat (first | (with_reducible first | exact HB.out | apply below_alloc | apply pw_below_drewN | apply below_drew1 | refine below_set ?_ (IsS72.ge HI215.out) | refine below_set ?_ GE212.out | refine below_set ?_ GE227.out) | exact HB.out)); rintro e w51 ⟨rfl, hi, hb, hk⟩; refine ⟨_, rfl, ?_⟩; replace BK212 := tBk BK212 hk NB212_215; replace HO225 := tNk HO225 hk; replace BK227 := tBq (o' := .cells #[.bool t218, .bool t219, .int .i64 t220, .int .i64 t221, .int .i64 t222, .slice Ao50 t223.length co50] 25 (0, 0)) BK227 hk NB227_215; replace HB := Aside0.mk (hb); replace HI215 := Aside0.mk (hi); (try clear hb); (try clear hb2); (try clear hk); (try clear hi)))
   replace HO225 := Aside0.mk (Kd.N_drew HO225.out)
   replace BK212 := Aside0.mk (blk_drew BK212.out)
   replace BK227 := Aside0.mk (blk_drew BK227.out)
   replace HI215 := Aside0.mk (IsS72.drew HI215.out)
   replace HB := Aside0.mk (below_drew1 HB.out)
   have p239 : 0 ≤ (0 : Int) := (by omega)
   have q239 : 0 < (t223.length : Int) := td
   obtain ⟨ad239, A239_3, c239_3, A239_5, c239_5, e239, hx239_0, hx239_1, hx239_2, hx239_3, hx239_4, hx239_5, hl239_3, hi239_3, hl239_5, hi239_5⟩ := at_T41 (Kd.N_reads' HO225.out).2.2 0 p239 q239
   cases e239
   obtain ⟨ce239, hce239, hMe239, hcc239⟩ := Kd.N_get HO225.out z41 0 p239 (by first | exact q239 | exact td | (have e_ := (Kd.N_reads' HO225.out).1; omega))
   obtain ⟨ua239_3, uc239_3, ua239_5, uc239_5, rfl, ul239_3, ge239_3, ul239_5, ge239_5⟩ := k41_openF hMe239
   have hv239_3 := hcc239 3 _ rfl
   rw [add_field _ _ 3 (by omega)] at hv239_3
   replace hv239_3 := Option.some.inj (hv239_3.symm.trans hx239_3)
   injection hv239_3 with hva_ hvn_ hvc_
   rw [hva_] at ge239_3
   rw [hvc_] at ul239_3
   have HL239_3 := Aside0.mk (show Kd.V (Kd.int .i64) 3 _ w.heap.size _ _ ((rd_T41 t223 0).f3) from Kd.V_mk ul239_3 ge239_3)
   clear hva_ hvn_ hvc_ ge239_3 ul239_3
   have hv239_5 := hcc239 5 _ rfl
   rw [add_field _ _ 5 (by omega)] at hv239_5
   replace hv239_5 := Option.some.inj (hv239_5.symm.trans hx239_5)
   injection hv239_5 with hva_ hvn_ hvc_
   rw [hva_] at ge239_5
   rw [hvc_] at ul239_5
   have HL239_5 := Aside0.mk (show Kd.V (Kd.int .i64) 3 _ w.heap.size _ _ ((rd_T41 t223 0).f5) from Kd.V_mk ul239_5 ge239_5)
   clear hva_ hvn_ hvc_ ge239_5 ul239_5
   clear hcc239 hce239
   have qi239 : (0 < t223.length) = True := eq_true (by omega)
   (try rw [show ((0 : Int)).toNat = 0 from rfl] at hx239_0)
   (try rw [show 0 * 6 = 0 from rfl] at hx239_0)
   (try rw [Addr.add_zero'] at hx239_0)
   (try rw [show ((0 : Int)).toNat = 0 from rfl] at hx239_1)
   (try rw [show 0 * 6 = 0 from rfl] at hx239_1)
   (try rw [Addr.add_zero'] at hx239_1)
   (try rw [show ((0 : Int)).toNat = 0 from rfl] at hx239_2)
   (try rw [show 0 * 6 = 0 from rfl] at hx239_2)
   (try rw [Addr.add_zero'] at hx239_2)
   (try rw [show ((0 : Int)).toNat = 0 from rfl] at hx239_3)
   (try rw [show 0 * 6 = 0 from rfl] at hx239_3)
   (try rw [Addr.add_zero'] at hx239_3)
   (try rw [show ((0 : Int)).toNat = 0 from rfl] at hx239_4)
   (try rw [show 0 * 6 = 0 from rfl] at hx239_4)
   (try rw [Addr.add_zero'] at hx239_4)
   (try rw [show ((0 : Int)).toNat = 0 from rfl] at hx239_5)
   (try rw [show 0 * 6 = 0 from rfl] at hx239_5)
   (try rw [Addr.add_zero'] at hx239_5)
   have HR239_3 := Aside0.mk hi239_3
   have HC239_3 := Aside0.mk hl239_3
   clear hi239_3 hl239_3
   have HR239_5 := Aside0.mk hi239_5
   have HC239_5 := Aside0.mk hl239_5
   clear hi239_5 hl239_5
   replace p239 := eq_true p239
   replace q239 := eq_true q239
   refine start_ (n := 15) (S := fun w' => w'.cell? ⟨gb227, 0, none⟩ = some (.bool t218) ∧ w'.cell? ⟨gb227, 1, none⟩ = some (.bool t219) ∧ w'.cell? ⟨gb227, 2, none⟩ = some (.int .i64 t220) ∧ w'.cell? ⟨gb227, 3, none⟩ = some (.int .i64 t221) ∧ w'.cell? ⟨gb227, 4, none⟩ = some (.int .i64 t222) ∧ w'.cell? ⟨gb227, 5, none⟩ = some (.slice (some ad239) t223.length co50) ∧ w'.cell? ad239 = some (.int .i64 ((rd_T41 t223 0).f0)) ∧ w'.cell? ⟨ad239.block, ad239.off + 1, none⟩ = some (.int .i64 ((rd_T41 t223 0).f1)) ∧ w'.cell? ⟨ad239.block, ad239.off + 2, none⟩ = some (.bool ((rd_T41 t223 0).f2)) ∧ w'.cell? ⟨ad239.block, ad239.off + 3, none⟩ = some (.slice A239_3 ((rd_T41 t223 0).f3).length c239_3) ∧ w'.cell? ⟨ad239.block, ad239.off + 4, none⟩ = some (.bool ((rd_T41 t223 0).f4)) ∧ w'.cell? ⟨ad239.block, ad239.off + 5, none⟩ = some (.slice A239_5 ((rd_T41 t223 0).f5).length c239_5)) (ds := []) #[false, false, false, false, false, false, false, false, false, false, false, false, false, false, false] (by kernel_rfl) rfl rfl ⟨(blk_cell BK227.out 0).trans rfl, (blk_cell BK227.out 1).trans rfl, (blk_cell BK227.out 2).trans rfl, (blk_cell BK227.out 3).trans rfl, (blk_cell BK227.out 4).trans rfl, (blk_cell BK227.out 5).trans rfl, hx239_0, hx239_1, hx239_2, hx239_3, hx239_4, hx239_5⟩ (fun hHeld => ?_); refine with_tabW spec_DrawBatchCut.tab5 spec_DrawBatchCut.bits5 (fun HT_ HW_ => ?_)
   generalize w51.drew = w52 at HO225 BK212 BK227 HI215 HB HL239_3 HL239_5 HR239_3 HR239_5 hx239_0 hx239_1 hx239_2 hx239_3 hx239_4 hx239_5 hHeld ⊢
   refine pure_ (i := 1) (N := some 23) (v := ?_) (a' := ?_) #[false, true, false, false, false, false, false, false, false, false, false, false, false, false, false] rfl rfl (any_of HT_.out (by kernel_rfl)) (fun _ _ _ h => h) (Or.inl ⟨by rfl, ?_⟩) ?_ ?_
   rotate_left
   ·intro w'
    go_simp
    with_reducible rfl
   rotate_left
   ·simp only [Act.put, List.setIfInBounds_toArray, List.set_cons_zero, List.set_cons_succ, i64_w, i32_w]
    rfl
   refine pure_ (i := 6) (N := some 28) (v := ?_) (a' := ?_) #[false, true, false, false, false, false, true, false, false, false, false, false, false, false, false] rfl rfl (any_of HT_.out (by kernel_rfl)) (fun _ _ _ h => h) (Or.inl ⟨by rfl, ?_⟩) ?_ ?_
   rotate_left
   ·intro w'
    go_simp
    with_reducible rfl
   rotate_left
   ·simp only [Act.put, List.setIfInBounds_toArray, List.set_cons_zero, List.set_cons_succ, i64_w, i32_w]
    rfl
   refine pure_ (i := 7) (N := some 29) (v := ?_) (a' := ?_) #[false, true, false, false, false, false, true, true, false, false, false, false, false, false, false] rfl rfl (any_of HT_.out (by kernel_rfl)) (fun _ _ _ h => h) (Or.inl ⟨by rfl, ?_⟩) ?_ ?_
   rotate_left
   ·intro w'
    go_simp
    with_reducible rfl
   rotate_left
   ·simp only [Act.put, List.setIfInBounds_toArray, List.set_cons_zero, List.set_cons_succ, i64_w, i32_w]
    rfl
   refine take_ (i := 0) (N := some 22) (v := ?_) (a' := ?_) #[true, true, false, false, false, false, true, true, false, false, false, false, false, false, false] rfl rfl (take_ofW HT_.out HW_.out (by kernel_rfl)) (fun _ _ _ h => h) (Or.inl ⟨by rfl, ?_⟩) hHeld ?_ ?_
   rotate_left
   ·rintro w' ⟨s0, s1, s2, s3, s4, s5, s6, s7, s8, s9, s10, s11⟩
    go_simp
    with_reducible rfl
   rotate_left
   ·simp only [Act.put, List.setIfInBounds_toArray, List.set_cons_zero, List.set_cons_succ, i64_w, i32_w]
    rfl
   refine take_ (i := 2) (N := some 24) (v := ?_) (a' := ?_) #[true, true, true, false, false, false, true, true, false, false, false, false, false, false, false] rfl rfl (take_ofW HT_.out HW_.out (by kernel_rfl)) (fun _ _ _ h => h) (Or.inl ⟨by rfl, ?_⟩) hHeld ?_ ?_
   rotate_left
   ·rintro w' ⟨s0, s1, s2, s3, s4, s5, s6, s7, s8, s9, s10, s11⟩
    go_simp
    with_reducible rfl
   rotate_left
   ·simp only [Act.put, List.setIfInBounds_toArray, List.set_cons_zero, List.set_cons_succ, i64_w, i32_w]
    rfl
   refine pure_ (i := 3) (N := some 25) (v := ?_) (a' := ?_) #[true, true, true, true, false, false, true, true, false, false, false, false, false, false, false] rfl rfl (any_of HT_.out (by kernel_rfl)) (fun _ _ _ h => h) (Or.inl ⟨by rfl, ?_⟩) ?_ ?_
   rotate_left
   ·intro w'
    go_simp
    with_reducible rfl
   rotate_left
   ·simp only [Act.put, List.setIfInBounds_toArray, List.set_cons_zero, List.set_cons_succ, i64_w, i32_w]
    rfl
   refine pure_ (i := 4) (N := some 26) (v := ?_) (a' := ?_) #[true, true, true, true, true, false, true, true, false, false, false, false, false, false, false] rfl rfl (any_of HT_.out (by kernel_rfl)) (fun _ _ _ h => h) (Or.inl ⟨by rfl, ?_⟩) ?_ ?_
   rotate_left
   ·intro w'
    go_simp
    with_reducible rfl
   rotate_left
   ·simp only [Act.put, List.setIfInBounds_toArray, List.set_cons_zero, List.set_cons_succ, i64_w, i32_w]
    rfl
   refine take_ (i := 5) (N := some 27) (v := ?_) (a' := ?_) #[true, true, true, true, true, true, true, true, false, false, false, false, false, false, false] rfl rfl (take_ofW HT_.out HW_.out (by kernel_rfl)) (fun _ _ _ h => h) (Or.inl ⟨by rfl, ?_⟩) hHeld ?_ ?_
   rotate_left
   ·rintro w' ⟨s0, s1, s2, s3, s4, s5, s6, s7, s8, s9, s10, s11⟩
    go_simp
    with_reducible rfl
   rotate_left
   ·simp only [Act.put, List.setIfInBounds_toArray, List.set_cons_zero, List.set_cons_succ, i64_w, i32_w]
    rfl
   refine take_ (i := 8) (N := some 30) (v := ?_) (a' := ?_) #[true, true, true, true, true, true, true, true, true, false, false, false, false, false, false] rfl rfl (take_ofW HT_.out HW_.out (by kernel_rfl)) (fun _ _ _ h => h) (Or.inl ⟨by rfl, ?_⟩) hHeld ?_ ?_
   rotate_left
   ·rintro w' ⟨s0, s1, s2, s3, s4, s5, s6, s7, s8, s9, s10, s11⟩
    go_simp
    with_reducible rfl
   rotate_left
   ·simp only [Act.put, List.setIfInBounds_toArray, List.set_cons_zero, List.set_cons_succ, i64_w, i32_w]
    rfl
   refine pure_ (i := 9) (N := some 31) (v := ?_) (a' := ?_) #[true, true, true, true, true, true, true, true, true, true, false, false, false, false, false] rfl rfl (any_of HT_.out (by kernel_rfl)) (fun _ _ _ h => h) (Or.inl ⟨by rfl, ?_⟩) ?_ ?_
   rotate_left
   ·intro w'
    go_simp
    with_reducible rfl
   rotate_left
   ·simp only [Act.put, List.setIfInBounds_toArray, List.set_cons_zero, List.set_cons_succ, i64_w, i32_w]
    rfl
   refine pure_ (i := 10) (N := some 32) (v := ?_) (a' := ?_) #[true, true, true, true, true, true, true, true, true, true, true, false, false, false, false] rfl rfl (any_of HT_.out (by kernel_rfl)) (fun _ _ _ h => h) (Or.inl ⟨by rfl, ?_⟩) ?_ ?_
   rotate_left
   ·intro w'
    go_simp
    with_reducible rfl
   rotate_left
   ·simp only [Act.put, List.setIfInBounds_toArray, List.set_cons_zero, List.set_cons_succ, i64_w, i32_w]
    rfl
   refine one_ (i := 11) (N := some 33) #[true, true, true, true, true, true, true, true, true, true, true, true, false, false, false] rfl rfl (one_of HT_.out (by kernel_rfl)) (by decide) (fun K hK => ?_)
   refine goes_ Tryd.func24 (by kernel_rfl) rfl #[.pointer (some ⟨g215, 0, none⟩), .int .i64 (wrap64 ((t223.length : Int) + 1))] (by rfl) rfl rfl tq ?_
   with_reducible refine (spec_l6Rd_pick.calls k g215 t213 t229 (wrap64 ((t223.length : Int) + 1)) t240 t241 w _ ?side1 ?side2 A41.out).mono ?_
   (case side1 => repeat (first | (with_reducible first | exact HI215.out | apply IsS72.alloc | apply IsS72.drewN | apply IsS72.drew | apply IsS72.set_1 | refine IsS72.far ?_ NB215_212.out _ | refine IsS72.far ?_ NB215_227.out _) | exact HI215.out))
   (case side2 => repeat (first | (with_reducible first | exact HB.out | apply below_alloc | apply pw_below_drewN | apply below_drew1 | refine below_set ?_ (IsS72.ge HI215.out) | refine below_set ?_ GE212.out | refine below_set ?_ GE227.out) | exact HB.out))
   rintro e w53 ⟨rfl, hi, hb, hk⟩
   have HS6_ := keep_cell hk (hHeld.2.2.2.2.2.2.1) (tow (Kd.own_blk (IsS72.own_neN HI215.out HO225.out (by decide))))
   have HS7_ := keep_cell hk (hHeld.2.2.2.2.2.2.2.1) (tow (Kd.own_blk (IsS72.own_neN HI215.out HO225.out (by decide))))
   have HS8_ := keep_cell hk (hHeld.2.2.2.2.2.2.2.2.1) (tow (Kd.own_blk (IsS72.own_neN HI215.out HO225.out (by decide))))
   have HS9_ := keep_cell hk (hHeld.2.2.2.2.2.2.2.2.2.1) (tow (Kd.own_blk (IsS72.own_neN HI215.out HO225.out (by decide))))
   have HS10_ := keep_cell hk (hHeld.2.2.2.2.2.2.2.2.2.2.1) (tow (Kd.own_blk (IsS72.own_neN HI215.out HO225.out (by decide))))
   have HS11_ := keep_cell hk (hHeld.2.2.2.2.2.2.2.2.2.2.2) (tow (Kd.own_blk (IsS72.own_neN HI215.out HO225.out (by decide))))
   refine ⟨_, rfl, ?_⟩
   replace BK212 := tBk BK212 hk NB212_215
   replace HO225 := tNk HO225 hk
   replace BK227 := tBk BK227 hk NB227_215
   replace HL239_3 := tVk HL239_3 hk
   replace HL239_5 := tVk HL239_5 hk
   replace HB := Aside0.mk (hb)
   replace HI215 := Aside0.mk (hi)
   (try clear hb)
   (try clear hb2)
   (try clear hk)
   (try clear hi)
   refine hK.out _ _ ⟨(blk_cell BK227.out 0).trans rfl, (blk_cell BK227.out 1).trans rfl, (blk_cell BK227.out 2).trans rfl, (blk_cell BK227.out 3).trans rfl, (blk_cell BK227.out 4).trans rfl, (blk_cell BK227.out 5).trans rfl, HS6_, HS7_, HS8_, HS9_, HS10_, HS11_⟩ (fun hHeld => ?_)
   clear hK K
   refine norm_ (a' := ?_) ?_ ?_
   rotate_left
   ·show Act.put _ (some 33) _ = _
    simp only [Act.put, List.setIfInBounds_toArray, List.set_cons_zero, List.set_cons_succ, i64_w, i32_w]
    rfl
   refine pure_ (i := 12) (N := some 34) (v := ?_) (a' := ?_) #[true, true, true, true, true, true, true, true, true, true, true, true, true, false, false] rfl rfl (any_of HT_.out (by kernel_rfl)) (fun _ _ _ h => h) (Or.inl ⟨by rfl, ?_⟩) ?_ ?_
   rotate_left
   ·intro w'
    go_simp
    with_reducible rfl
   rotate_left
   ·simp only [Act.put, List.setIfInBounds_toArray, List.set_cons_zero, List.set_cons_succ, i64_w, i32_w]
    rfl
   refine one_ (i := 13) (N := none) #[true, true, true, true, true, true, true, true, true, true, true, true, true, true, false] rfl rfl (one_of HT_.out (by kernel_rfl)) (by decide) (fun K hK => ?_)
   have hs54 : w53.cell? ⟨gb212, 0, none⟩ = some (.bool false) := (blk_cell BK212.out 0).trans rfl
   have hfs54 := blk_frozen BK212.out 0
   have hns54_1 := NB227_212.out
   have hms54_1 := NB212_227.out
   have hs55 : w53.cell? ⟨gb212, 1, none⟩ = some (.bool false) := (blk_cell BK212.out 1).trans rfl
   have hfs55 := blk_frozen BK212.out 1
   have hns55_1 := NB227_212.out
   have hms55_1 := NB212_227.out
   have hs56 : w53.cell? ⟨gb212, 2, none⟩ = some (.int .i64 0) := (blk_cell BK212.out 2).trans rfl
   have hfs56 := blk_frozen BK212.out 2
   have hns56_1 := NB227_212.out
   have hms56_1 := NB212_227.out
   have hs57 : w53.cell? ⟨gb212, 3, none⟩ = some (.int .i64 0) := (blk_cell BK212.out 3).trans rfl
   have hfs57 := blk_frozen BK212.out 3
   have hns57_1 := NB227_212.out
   have hms57_1 := NB212_227.out
   have hs58 : w53.cell? ⟨gb212, 4, none⟩ = some (.int .i64 0) := (blk_cell BK212.out 4).trans rfl
   have hfs58 := blk_frozen BK212.out 4
   have hns58_1 := NB227_212.out
   have hms58_1 := NB212_227.out
   have hs59 : w53.cell? ⟨gb212, 5, none⟩ = some (.slice none 0 0) := (blk_cell BK212.out 5).trans rfl
   have hfs59 := blk_frozen BK212.out 5
   have hns59_1 := NB227_212.out
   have hms59_1 := NB212_227.out
   refine skip_ (w1 := ?_) (by rfl) rfl ?_ ?_
   rotate_left
   ·go_simp
    rfl
   refine hK.out _ _ ⟨(tcg NB227_212.out hHeld.1), (tcg NB227_212.out hHeld.2.1), (tcg NB227_212.out hHeld.2.2.1), (tcg NB227_212.out hHeld.2.2.2.1), (tcg NB227_212.out hHeld.2.2.2.2.1), (tcg NB227_212.out hHeld.2.2.2.2.2.1), (tcg (Kd.own_blk (Kd.N_away HO225.out (fun _ hk => hk.1.2.1))) hHeld.2.2.2.2.2.2.1), (tcg (Kd.own_blk (Kd.N_away HO225.out (fun _ hk => hk.1.2.1))) hHeld.2.2.2.2.2.2.2.1), (tcg (Kd.own_blk (Kd.N_away HO225.out (fun _ hk => hk.1.2.1))) hHeld.2.2.2.2.2.2.2.2.1), (tcg (Kd.own_blk (Kd.N_away HO225.out (fun _ hk => hk.1.2.1))) hHeld.2.2.2.2.2.2.2.2.2.1), (tcg (Kd.own_blk (Kd.N_away HO225.out (fun _ hk => hk.1.2.1))) hHeld.2.2.2.2.2.2.2.2.2.2.1), (tcg (Kd.own_blk (Kd.N_away HO225.out (fun _ hk => hk.1.2.1))) hHeld.2.2.2.2.2.2.2.2.2.2.2)⟩ (fun hHeld => ?_)
   clear hK K
   refine pure_ (i := 14) (N := some 3) (v := ?_) (a' := ?_) #[true, true, true, true, true, true, true, true, true, true, true, true, true, true, true] rfl rfl (any_of HT_.out (by kernel_rfl)) (fun _ _ _ h => h) (Or.inl ⟨by rfl, ?_⟩) ?_ ?_
   rotate_left
   ·intro w'
    go_simp
    with_reducible rfl
   rotate_left
   ·simp only [Act.put, List.setIfInBounds_toArray, List.set_cons_zero, List.set_cons_succ, i64_w, i32_w]
    rfl
   refine done_ (done_of HT_.out (by kernel_rfl)) ?_
   try go_wp2
   refine bodyPost_ret (results_ct rfl _ _ gb212 25 #[.bool t218, .bool t219, .int .i64 t220, .int .i64 t221, .int .i64 t222, .slice (some ad239) t223.length co50] (0, 0) _ rfl (tP BK212.out) Tryd.underlying25 rfl (by kernel_rfl)) rfl ?_
   exact ⟨_, by first | rfl | (simp [errW_none, errW_some] <;> rfl) | (simp [*, errW_none, errW_some] <;> rfl), tNm HO225.out, by repeat (first | (with_reducible first | exact HB.out | apply below_alloc | apply pw_below_drewN | apply below_drew1 | refine below_set ?_ (IsS72.ge HI215.out) | refine below_set ?_ GE212.out | refine below_set ?_ GE227.out) | exact HB.out)⟩
  ·rw [if_neg c40] at H
   exact absurd H (by simp)

end Go.Proofs.YtahenocndacjeaaDoor.G

namespace Go.Proofs.YtahenocndacjeaaDoor.G
open Go.RowKit Go.Extern.Stop Go.Stop Go.Extern
set_option linter.unusedVariables false
theorem isTypeOf (v : Value) (w : World) : (Extern.ReflectliteType.typeOf #[.iface 106 v]).run Tryd.prog w = .ok (.iface 94 (.agg #[.pointer (some ⟨2, 106, none⟩)])) w := by kernel_rfl
theorem isCallComparable (w : World) : (callFunc 87 #[.agg #[.pointer (some ⟨2, 106, none⟩)]]).run Tryd.prog w = .ok (.value (.bool true)) w := by kernel_rfl
theorem isMethodComparable (v : Value) (w : World) : (Go.method 243 94 v "Comparable").run Tryd.prog w = .ok (87, v) w := by kernel_rfl
theorem isComp : (Tryd.prog.info? 106).map (·.comparable) = some true := by kernel_rfl
set_option maxRecDepth 100000 in
set_option maxHeartbeats 400000 in
/-- errors.Is(x, x), x a pointer to an errors.errorString. -/
theorem is_same (a : Addr) (w : World) :
    Calls Tryd.prog 27 #[.iface 106 (.pointer (some a)), .iface 106 (.pointer (some a))] w fun e w' => e = .returned (.bool true) ∧ w' = w := by
  obtain ⟨i, hi, hcmp⟩ := Option.map_eq_some_iff.1 isComp
  have h8 := @run_callFunc_extern Tryd.prog 44 _ Extern.ReflectliteType.typeOf Tryd.func44 (by kernel_rfl) (by kernel_rfl) (by kernel_rfl) (by kernel_rfl)
  have tT := isTypeOf
  have cT := isCallComparable
  have mR := isMethodComparable
  have hz : ∃ j, Tryd.prog.info? 131 = some j := by
    have h : (Tryd.prog.info? 131).isSome = true := by kernel_rfl
    exact Option.isSome_iff_exists.1 h
  obtain ⟨j, hj⟩ := hz
  have heq := run_eql_iface_ptr_same (P := Tryd.prog) w a Tryd.underlying56 Tryd.underlying106 hi hcmp hj
  go_enter Tryd.func27, Tryd.ntmps27
  go_wp2
  refine wp_loop_rounds 1 ?_
  rw [rounds_succ]
  go_wp2
  go_ret
  exact ⟨rfl, rfl⟩
/-- errors.Is(nil, x). -/
theorem is_nil (b : Addr) (w : World) :
    Calls Tryd.prog 27 #[.nilIface, .iface 106 (.pointer (some b))] w fun e w' => e = .returned (.bool false) ∧ w' = w := by
  have hn := run_eql_iface_nil_left (P := Tryd.prog) w 106 (.pointer (some b)) Tryd.underlying56
  go_enter Tryd.func27, Tryd.ntmps27
  go_wp2
  go_ret
  exact ⟨rfl, rfl⟩
def errors_Is.f (a b : Option Int) : Option Bool := match b with
  | none => none
  | some y => match a with
    | none => some false
    | some x => if x = y then some true else none
theorem errors_Is.calls [ErrA] (a0 a1 : Option Int) (r : Bool) (w : World) (h : errors_Is.f a0 a1 = some r) :
    Calls Tryd.prog 27 #[errW a0, errW a1] w fun e w' => e = .returned (.bool r) ∧ Below w.heap.size w w' := by
  cases a1 with
  | none => exact absurd h (by simp [errors_Is.f])
  | some y =>
    cases a0 with
    | none =>
      obtain rfl : false = r := by simpa [errors_Is.f] using h
      exact (is_nil _ w).mono fun e w' ⟨he, hw⟩ => ⟨he, hw ▸ Below.refl _ _⟩
    | some x =>
      by_cases hxy : x = y
      · subst hxy
        obtain rfl : true = r := by simpa [errors_Is.f] using h
        exact (is_same _ w).mono fun e w' ⟨he, hw⟩ => ⟨he, hw ▸ Below.refl _ _⟩
      · exact absurd h (by simp [errors_Is.f, hxy])
end Go.Proofs.YtahenocndacjeaaDoor.G

namespace Go.Proofs.YtahenocndacjeaaDoor.Pu
open Go.RowKit Go.Proofs.YtahenocndacjeaaDoorW.PrintWords Go.Proofs.YtahenocndacjeaaDoorW.PrintLast
set_option linter.unusedVariables false
set_option linter.unusedSimpArgs false
theorem w64 {a : Int} (h0 : -9223372036854775808 ≤ a) (h1 : a ≤ 9223372036854775807) : wrap64 a = a := by unfold wrap64; omega
/-- (Not by 'rfl': a large number in a test behind it would be counted up by the kernel.) -/
theorem bindS {α β : Type} (x : α) (f : α → Option β) : (some x).bind f = f x := Eq.trans (Option.bind_some x f) (Eq.refl _)
/-- It ends, in something of which P holds. -/
def EndsIn {α : Type} (g : Nat → Option α) (P : α → Prop) : Prop := ∃ r, Ev g r ∧ P r
theorem EndsIn.bind {α β : Type} {g : Nat → Option α} {f : Nat → α → Option β} {P : α → Prop} {Q : β → Prop} (h : EndsIn g P) (k : ∀ a, P a → EndsIn (fun n => f n a) Q) : EndsIn (fun n => (g n).bind (f n)) Q := by
  obtain ⟨a, ha, hp⟩ := h
  obtain ⟨b, hb, hq⟩ := k a hp
  exact ⟨b, Ev.bind ha hb, hq⟩
theorem EndsIn.step {α : Type} {g f : Nat → Option α} {P : α → Prop} (h : ∀ k, g (k + 1) = f k) (k : EndsIn f P) : EndsIn g P := by
  obtain ⟨a, ha, hp⟩ := k
  exact ⟨a, Ev.step h ha, hp⟩
theorem EndsIn.now {α : Type} {P : α → Prop} (r : α) (hp : P r) : EndsIn (fun _ => some r) P := ⟨r, Ev.now r, hp⟩
theorem EndsIn.mono {α : Type} {g : Nat → Option α} {P Q : α → Prop} (h : EndsIn g P) (k : ∀ a, P a → Q a) : EndsIn g Q := by
  obtain ⟨a, ha, hp⟩ := h
  exact ⟨a, ha, k a hp⟩
theorem EndsIn.ev {α : Type} {g : Nat → Option α} {r : α} (h : EndsIn g (fun x => x = r)) : Ev g r := by
  obtain ⟨a, ha, rfl⟩ := h
  exact ha
theorem EndsIn.rounds {α : Type} {g : Nat → Option α} {r : α} (h : EndsIn g (fun x => x = r)) : ∃ k, g k = some r := h.ev.rounds
theorem u8_range {x : Int} (h : (Lit.int .u8 x).wf = true) : 0 ≤ x ∧ x ≤ 255 := by
  simp only [Lit.wf, Bool.and_eq_true, decide_eq_true_eq] at h
  exact ⟨h.1, h.2⟩
end Go.Proofs.YtahenocndacjeaaDoor.Pu

