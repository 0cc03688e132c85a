/- A text of seat YtahenocndacjeaaDoor: what the law FnJoinCut needs of this repo's texts (by pack.py). Not trusted: Lean checks it. -/
import Derived.Test.YtahenocndacjeaaDoorKFnJoinCut9
namespace Go.Proofs.YtahenocndacjeaaDoor.G
open Go.RowKit Go.Proofs.YtahenocndacjeaaDoorW.PrintWords Go.Proofs.YtahenocndacjeaaDoorW.PrintLast Go.Proofs.YtahenocndacjeaaDoorW.PrintMore
attribute [local go_sem] max2_int min2_int max_two min_two max_three min_three max_four min_four   -- for this text's walks alone
set_option linter.unusedVariables false
set_option linter.unusedSimpArgs false

def spec_l91Batch.j0 : Nat → List Int → Int → Bool → Bool → Int → Int → Int → List (S41) → Option (Bool × Bool × Int × Int × Int × (List (S41)) × Int)
 | 0, _, _, _, _, _, _, _, _ => none
 | k + 1, x1000, x1001, x177000, x177001, x177002, x177003, x177004, x177005 => (spec_l6Rd_pick.f k x1000 x1001 40).bind fun bt200 => (if bt200.1 = 0 then ((some (([(-1), 1, 100] : List Int) : List Int)).bind fun y202 => ((spec_l6Rd_pick.f k x1000 bt200.2 3).bind fun bt205 => (if 0 ≤ bt205.1 then (if bt205.1 < (y202.length : Int) then (some (x177000, x177001, x177002, rd y202 bt205.1, x177004, x177005, bt205.2)) else (none)) else (none)))) else (if bt200.1 = 1 then (if 0 < (x177005.length : Int) then (if x177005.length < 1759218604441 then (some (x177000, x177001, x177002, x177003, x177004, (x177005 ++ [(⟨(rd_T41 x177005 0).f0, (rd_T41 x177005 0).f1, (rd_T41 x177005 0).f2, (rd_T41 x177005 0).f3, (rd_T41 x177005 0).f4, (rd_T41 x177005 0).f5⟩ : S41)]), bt200.2)) else (none)) else (none)) else (if bt200.1 = 2 then (some (x177000, !x177001, x177002, x177003, x177004, x177005, bt200.2)) else (some (x177000, x177001, x177002, x177003, x177004, x177005, bt200.2)))))
def spec_l91Batch.f (k : Nat) (s0_0 : List Int) (s0_1 : Int) (a1 : Int) : Option (Bool × Bool × Int × Int × Int × (List (S41)) × Int) := (spec_l6Rd_pick.f k s0_0 s0_1 2).bind fun bt170 => ((spec_l91Records.f k s0_0 bt170.2 a1 4).bind fun bt172 => ((spec_l6Rd_pick.f k s0_0 bt172.2 3).bind fun bt177 => (if bt177.1 = 0 then ((spec_l6Rd_pick.f k s0_0 bt177.2 3).bind fun bt179 => ((spec_l6Rd_pick.f k s0_0 bt179.2 3).bind fun bt181 => ((spec_l6Rd_pick.f k s0_0 bt181.2 5).bind fun bt183 => ((spec_l6Rd_pick.f k s0_0 bt183.2 3).bind fun bt185 => (if bt185.1 = 0 then ((spec_l6Rd_pick.f k s0_0 bt185.2 200).bind fun bt187 => ((spec_l6Rd_pick.f k s0_0 bt187.2 2).bind fun bt192 => (spec_l91Batch.j0 k s0_0 bt192.2 (bt170.1 == 0) true bt179.1 bt181.1 bt183.1 (([(⟨a1, bt187.1, false, (([] : List Int)), true, (([bt192.1] : List Int))⟩ : S41)] : List (S41)))))) else (spec_l91Batch.j0 k s0_0 bt185.2 (bt170.1 == 0) false bt179.1 bt181.1 bt183.1 bt172.1)))))) else (spec_l91Batch.j0 k s0_0 bt177.2 (bt170.1 == 0) false 255 0 0 bt172.1))))
def spec_l91Batch.T13 : Bool × List (List Nat × List Nat) := (true, [([], []), ([0], [0]), ([], []), ([2], [2]), ([3], [3]), ([4], [4]), ([5], [5]), ([1, 6], [1, 6]), ([0, 1, 2, 3, 4, 5, 6, 7], []), ([8, 7, 7, 0, 1, 2, 3, 4, 5, 6, 7], [7, 8])])
def spec_l91Batch.B13 : List Nat := [0, 1, 0, 4, 12, 28, 60, 127, 255, 511]
theorem spec_l91Batch.tab13 : rtab .any (opsOf Tryd.f23 13) = spec_l91Batch.T13 := by kernel_rfl
theorem spec_l91Batch.bits13 : waitsOk spec_l91Batch.T13.2 spec_l91Batch.B13 = true := by kernel_rfl
set_option maxHeartbeats 8000000 in
set_option maxRecDepth 100000 in
theorem spec_l91Batch.calls (k : Nat) (g : Nat) (s0_0 : List Int) (s0_1 : Int) (a1 : Int) (r1 : Bool) (r2 : Bool) (r3 : Int) (r4 : Int) (r5 : Int) (r6 : List (S41)) (r7 : Int) (w0 w : World) (hI : IsS72 w0 w g s0_0 s0_1) (hB : Below w0.heap.size w0 w) (h : spec_l91Batch.f k s0_0 s0_1 a1 = some (r1, r2, r3, r4, r5, r6, r7)) :
  Calls Tryd.prog 23 #[.pointer (some ⟨g, 0, none⟩), .int .i64 a1] w fun e w' => ∃ v5_ : Value, e = .returned (.agg #[.bool r1, .bool r2, .int .i64 r3, .int .i64 r4, .int .i64 r5, v5_]) ∧ Kd.N k41 41 w' w.heap.size (fun k_ => (w.heap.size ≤ k_)) v5_ r6 ∧ IsS72 w0 w' g s0_0 r7 ∧ Below w0.heap.size w0 w' ∧ KeepBut w w' g none := by
 have hu25 := Tryd.underlying25
 have hu41 := Tryd.underlying41
 have HI0 := Aside0.mk hI
 have HK := Aside0.mk (KeepBut.refl w g none)
 have HL := Aside0.mk hB.size
 clear hI
 have HW0 := Aside0.mk hB.size
 have HB := Aside0.mk hB
 clear hB
 have H : ((spec_l6Rd_pick.f k s0_0 s0_1 2).bind fun bt170 => ((spec_l91Records.f k s0_0 bt170.2 a1 4).bind fun bt172 => ((spec_l6Rd_pick.f k s0_0 bt172.2 3).bind fun bt177 => (if bt177.1 = 0 then ((spec_l6Rd_pick.f k s0_0 bt177.2 3).bind fun bt179 => ((spec_l6Rd_pick.f k s0_0 bt179.2 3).bind fun bt181 => ((spec_l6Rd_pick.f k s0_0 bt181.2 5).bind fun bt183 => ((spec_l6Rd_pick.f k s0_0 bt183.2 3).bind fun bt185 => (if bt185.1 = 0 then ((spec_l6Rd_pick.f k s0_0 bt185.2 200).bind fun bt187 => ((spec_l6Rd_pick.f k s0_0 bt187.2 2).bind fun bt192 => (spec_l91Batch.j0 k s0_0 bt192.2 (bt170.1 == 0) true bt179.1 bt181.1 bt183.1 (([(⟨a1, bt187.1, false, (([] : List Int)), true, (([bt192.1] : List Int))⟩ : S41)] : List (S41)))))) else (spec_l91Batch.j0 k s0_0 bt185.2 (bt170.1 == 0) false bt179.1 bt181.1 bt183.1 bt172.1)))))) else (spec_l91Batch.j0 k s0_0 bt177.2 (bt170.1 == 0) false 255 0 0 bt172.1))))) = some (r1, r2, r3, r4, r5, r6, r7) := h
 clear h
 replace H := tbe H
 obtain ⟨⟨t170, t171⟩, A3, H⟩ := H
 dsimp only at H
 replace H := tbe H
 obtain ⟨⟨t172, t175⟩, A4, H⟩ := H
 dsimp only at H
 replace H := tbe H
 obtain ⟨⟨t177, t178⟩, A5, H⟩ := H
 dsimp only at H
 have HC6 := Aside0.mk H
 clear H
 go_enter Tryd.func23, Tryd.ntmps23
 go_upto_if 15 with (first | ((with_reducible refine gate_dst (N := 4) rfl ?_); refine box_event ?hg (N := 4) ?hd (cs := #[.bool false, .bool false, .int .i64 0, .int .i64 0, .int .i64 0, .slice none 0 0]) (t := 25) ?hr ?_; (case hd => rfl); (case hg => rfl); (case hr => first | (go_simp; done) | (go_simp; rfl)); intro gb169 hg w7 hbox hb; replace HB := tBs HB hb; have BK169 := Aside0.mk (hbox); have GW169 := Aside0.mk ((by rw [hg]; exact (keep_size (w := w) (g := g) (row := none) zk) : w.heap.size ≤ gb169)); have GE169 := Aside0.mk ((Nat.le_trans HW0.out (by rw [hg]; exact (keep_size (w := w) (g := g) (row := none) zk) : w.heap.size ≤ gb169) : w0.heap.size ≤ gb169)); replace HK := tKb HK hb; have NB0_169 := Aside0.mk ((by rw [hg]; exact Nat.ne_of_lt (IsS72.lt (show IsS72 w0 _ g s0_0 s0_1 from zi72)) : g ≠ gb169)); have NB169_0 := Aside0.mk ((by rw [hg]; exact Nat.ne_of_gt (IsS72.lt (show IsS72 w0 _ g s0_0 s0_1 from zi72)) : gb169 ≠ g)); replace HI0 := tIb72 HI0 hb; clear hb hbox hg) | ((with_reducible refine gate_callee (f := 24) rfl ?_); refine goesL_ (some 7) rfl rfl Tryd.func24 (by kernel_rfl) rfl #[.pointer (some ⟨g, 0, none⟩), .int .i64 2] rfl tq ?_; (with_reducible refine (spec_l6Rd_pick.calls k g s0_0 s0_1 2 t170 t171 w0 _ ?side1 ?side2 A3.out).mono ?_); (case side1 => exact zi72); (case side2 => exact zb); rintro e w8 ⟨rfl, hi, hb, hk⟩; refine ⟨_, rfl, ?_⟩; replace BK169 := tBk BK169 hk NB169_0; replace HK := tKt HK hk; replace HB := Aside0.mk (hb); replace HI0 := Aside0.mk (hi); (try clear hb); (try clear hb2); (try clear hk); (try clear hi)) | ((with_reducible refine gate_callee (f := 25) rfl ?_); refine goesL_ (some 11) rfl rfl Tryd.func25 (by kernel_rfl) rfl #[.pointer (some ⟨g, 0, none⟩), .int .i64 a1, .int .i64 4] rfl tq ?_; (with_reducible refine (spec_l91Records.calls k g s0_0 t171 a1 4 t172 t175 w0 _ ?side1 ?side2 A4.out).mono ?_); (case side1 => exact zi72); (case side2 => exact zb); rintro e w9 ⟨v173, rfl, ho0, hi, hb, hk⟩; have u_v173 := tsv Tryd.prog v173 ho0; refine ⟨_, rfl, ?_⟩; have HO174 := Aside0.mk (Kd.N_lower (Kd.N_mono (ok' := fun k_ => (w.heap.size ≤ k_) ∧ k_ ≠ gb169 ∧ k_ ≠ g) (Kd.S_N (Kd.S_bound ho0)) (fun k_ hk_ => ⟨(Nat.le_trans (keep_size (w := w) (g := g) (row := none) zk) hk_.2.1), (tfB BK169 k_ hk_.2.1), (IsS72.fresh zi72 k_ hk_.2.1)⟩)) (keep_size (w := w) (g := g) (row := none) zk)); replace BK169 := tBk BK169 hk NB169_0; replace HK := tKt HK hk; replace HB := Aside0.mk (hb); replace HI0 := Aside0.mk (hi); (try clear hb); (try clear hb2); (try clear hk); (try clear hi); (try clear ho0); obtain ⟨Ao10, co10, eo10⟩ := Kd.N_slice HO174.out; subst eo10) | ((with_reducible refine gate_dst (N := 5) rfl ?_); refine box_event ?hg (N := 5) ?hd (cs := #[.bool false, .bool false, .int .i64 0, .int .i64 0, .int .i64 0, .slice none 0 0]) (t := 25) ?hr ?_; (case hd => rfl); (case hg => rfl); (case hr => first | (go_simp; done) | (go_simp; rfl)); intro gb176 hg w11 hbox hb; replace HO174 := tNB HO174 hg hb; replace HB := tBs HB hb; have BK176 := Aside0.mk (hbox); have GW176 := Aside0.mk ((by rw [hg]; exact (keep_size (w := w) (g := g) (row := none) zk) : w.heap.size ≤ gb176)); have GE176 := Aside0.mk ((Nat.le_trans HW0.out (by rw [hg]; exact (keep_size (w := w) (g := g) (row := none) zk) : w.heap.size ≤ gb176) : w0.heap.size ≤ gb176)); replace HK := tKb HK hb; have NB169_176 := tlt BK169 hg; have NB176_169 := tgt BK169 hg; replace BK169 := tBb BK169 hb; have NB0_176 := Aside0.mk ((by rw [hg]; exact Nat.ne_of_lt (IsS72.lt (show IsS72 w0 _ g s0_0 t175 from zi72)) : g ≠ gb176)); have NB176_0 := Aside0.mk ((by rw [hg]; exact Nat.ne_of_gt (IsS72.lt (show IsS72 w0 _ g s0_0 t175 from zi72)) : gb176 ≠ g)); replace HI0 := tIb72 HI0 hb; clear hb hbox hg; have hnb12 := NB176_169.out; have hnc12 := NB169_176.out; have hnb13 := NB176_0.out; have hnc13 := NB0_176.out; obtain ⟨hcz14_0, hcz14_1, hcz14_2, hcz14_3, hcz14_4, hcz14_5, hfz14_0, hfz14_1, hfz14_2, hfz14_3, hfz14_4, hfz14_5⟩ := cells6 BK176.out) | ((with_reducible refine gate_callee (f := 24) rfl ?_); refine goesL_ (some 14) rfl rfl Tryd.func24 (by kernel_rfl) rfl #[.pointer (some ⟨g, 0, none⟩), .int .i64 3] rfl tq ?_; (with_reducible refine (spec_l6Rd_pick.calls k g s0_0 t175 3 t177 t178 w0 _ ?side1 ?side2 A5.out).mono ?_); (case side1 => exact zi72); (case side2 => exact zb); rintro e w15 ⟨rfl, hi, hb, hk⟩; refine ⟨_, rfl, ?_⟩; replace BK169 := tBk BK169 hk NB169_0; replace HO174 := tNk HO174 hk; replace BK176 := tBq (o' := .cells #[.bool (t170 == 0), .bool false, .int .i64 255, .int .i64 0, .int .i64 0, .slice Ao10 t172.length co10] 25 (0, 0)) BK176 hk NB176_0; replace HK := tKt HK hk; replace HB := Aside0.mk (hb); replace HI0 := Aside0.mk (hi); (try clear hb); (try clear hb2); (try clear hk); (try clear hi)))
 (try simp only [Act.put, List.setIfInBounds_toArray, List.set_cons_zero, List.set_cons_succ])
 go_cut [] (fun wc => ∃ (kq : Nat) (x1001_5 : Int) (x177001_5 : Bool) (x177002_5 : Int) (x177003_5 : Int) (x177004_5 : Int) (x177005_5 : List (S41)) (u177005 : Value), Aside0 (spec_l91Batch.j0 kq s0_0 x1001_5 (t170 == 0) x177001_5 x177002_5 x177003_5 x177004_5 x177005_5 = some (r1, r2, r3, r4, r5, r6, r7)) ∧ Aside0 (kq ≤ k) ∧ Aside0 (Kd.N k41 41 wc w.heap.size (fun k_ => (w.heap.size ≤ k_) ∧ k_ ≠ gb169 ∧ k_ ≠ gb176 ∧ k_ ≠ g) u177005 x177005_5) ∧ Aside0 (wc.heap[gb169]? = some (.cells #[.bool false, .bool false, .int .i64 0, .int .i64 0, .int .i64 0, (.slice none 0 0)] 25 (0, 0))) ∧ Aside0 (wc.heap[gb176]? = some (.cells #[.bool (t170 == 0), .bool x177001_5, .int .i64 x177002_5, .int .i64 x177003_5, .int .i64 x177004_5, u177005] 25 (0, 0))) ∧ Aside0 (IsS72 w0 wc g s0_0 x1001_5) ∧ Aside0 (KeepBut w wc g none) ∧ Aside0 (Below w0.heap.size w0 wc))
 case first =>
  have H := HC6.out
  clear HC6
  by_cases c16 : t177 = 0
  ·rw [if_pos c16] at H
   have c16b0 : (t177 == 0) = true := beq_iff_eq.mpr c16
   have c16b1 : (t177 != 0) = false := bne_eq_false_iff_eq.mpr c16
   clear c16
   (first | rw [c16b0] | (simp only [i64_w, i32_w]; rw [c16b0]) | skip)
   replace H := tbe H
   obtain ⟨⟨t179, t180⟩, A17, H⟩ := H
   dsimp only at H
   replace H := tbe H
   obtain ⟨⟨t181, t182⟩, A18, H⟩ := H
   dsimp only at H
   replace H := tbe H
   obtain ⟨⟨t183, t184⟩, A19, H⟩ := H
   dsimp only at H
   replace H := tbe H
   obtain ⟨⟨t185, t186⟩, A20, H⟩ := H
   dsimp only at H
   by_cases c21 : t185 = 0
   ·rw [if_pos c21] at H
    have c21b0 : (t185 == 0) = true := beq_iff_eq.mpr c21
    have c21b1 : (t185 != 0) = false := bne_eq_false_iff_eq.mpr c21
    clear c21
    replace H := tbe H
    obtain ⟨⟨t187, t188⟩, A22, H⟩ := H
    dsimp only at H
    obtain ⟨y189, hy189⟩ : ∃ y_ : List Int, y_ = (([] : List Int)) := ⟨_, rfl⟩
    replace H : ((spec_l6Rd_pick.f k s0_0 t188 2).bind fun bt192 => (spec_l91Batch.j0 k s0_0 bt192.2 (t170 == 0) true t179 t181 t183 (([(⟨a1, t187, false, y189, true, (([bt192.1] : List Int))⟩ : S41)] : List (S41))))) = some (r1, r2, r3, r4, r5, r6, r7) := by first | (rw [hy189]; with_reducible exact H) | (have H2_ := (Option.bind_some _ _).symm.trans H; rw [hy189]; with_reducible exact H2_) | (have H2_ := (Option.bind_some _ _).symm.trans H; with_reducible exact H2_) | with_reducible exact H | (rw [hy189]; exact H) | exact H
    have Ny189 := Aside0.mk hy189
    clear hy189
    replace H := tbe H
    obtain ⟨⟨t192, t193⟩, A23, H⟩ := H
    dsimp only at H
    obtain ⟨y194, hy194⟩ : ∃ y_ : List Int, y_ = (([t192] : List Int)) := ⟨_, rfl⟩
    replace H : (spec_l91Batch.j0 k s0_0 t193 (t170 == 0) true t179 t181 t183 (([(⟨a1, t187, false, y189, true, y194⟩ : S41)] : List (S41)))) = some (r1, r2, r3, r4, r5, r6, r7) := by first | (rw [hy194]; with_reducible exact H) | (have H2_ := (Option.bind_some _ _).symm.trans H; rw [hy194]; with_reducible exact H2_) | (have H2_ := (Option.bind_some _ _).symm.trans H; with_reducible exact H2_) | with_reducible exact H | (rw [hy194]; exact H) | exact H
    have Ny194 := Aside0.mk hy194
    clear hy194
    obtain ⟨y197, hy197⟩ : ∃ y_ : List (S41), y_ = (([(⟨a1, t187, false, y189, true, y194⟩ : S41)] : List (S41))) := ⟨_, rfl⟩
    replace H : (spec_l91Batch.j0 k s0_0 t193 (t170 == 0) true t179 t181 t183 y197) = some (r1, r2, r3, r4, r5, r6, r7) := by first | (rw [hy197]; with_reducible exact H) | (have H2_ := (Option.bind_some _ _).symm.trans H; rw [hy197]; with_reducible exact H2_) | (have H2_ := (Option.bind_some _ _).symm.trans H; with_reducible exact H2_) | with_reducible exact H | (rw [hy197]; exact H) | exact H
    have Ny197 := Aside0.mk hy197
    clear hy197
    have H' := Aside0.mk H
    clear H
    go_wp2_with (first | ((with_reducible refine gate_callee (f := 24) rfl ?_); refine goesL_ (some 17) rfl rfl Tryd.func24 (by kernel_rfl) rfl #[.pointer (some ⟨g, 0, none⟩), .int .i64 3] rfl tq ?_; (with_reducible refine (spec_l6Rd_pick.calls k g s0_0 t178 3 t179 t180 w0 _ ?side1 ?side2 A17.out).mono ?_); (case side1 => exact zi72); (case side2 => exact zb); rintro e w24 ⟨rfl, hi, hb, hk⟩; refine ⟨_, rfl, ?_⟩; replace BK169 := tBk BK169 hk NB169_0; replace HO174 := tNk HO174 hk; replace BK176 := tBk BK176 hk NB176_0; replace HK := tKt HK hk; replace HB := Aside0.mk (hb); replace HI0 := Aside0.mk (hi); (try clear hb); (try clear hb2); (try clear hk); (try clear hi); have hnb25 := NB176_169.out; have hnc25 := NB169_176.out; have hnb26 := NB176_0.out; have hnc26 := NB0_176.out; obtain ⟨hcz27_0, hcz27_1, hcz27_2, hcz27_3, hcz27_4, hcz27_5, hfz27_0, hfz27_1, hfz27_2, hfz27_3, hfz27_4, hfz27_5⟩ := cells6 BK176.out) | ((with_reducible refine gate_callee (f := 24) rfl ?_); refine goesL_ (some 20) rfl rfl Tryd.func24 (by kernel_rfl) rfl #[.pointer (some ⟨g, 0, none⟩), .int .i64 3] rfl tq ?_; (with_reducible refine (spec_l6Rd_pick.calls k g s0_0 t180 3 t181 t182 w0 _ ?side1 ?side2 A18.out).mono ?_); (case side1 => exact zi72); (case side2 => exact zb); rintro e w28 ⟨rfl, hi, hb, hk⟩; refine ⟨_, rfl, ?_⟩; replace BK169 := tBk BK169 hk NB169_0; replace HO174 := tNk HO174 hk; replace BK176 := tBq (o' := .cells #[.bool (t170 == 0), .bool false, .int .i64 t179, .int .i64 0, .int .i64 0, .slice Ao10 t172.length co10] 25 (0, 0)) BK176 hk NB176_0; replace HK := tKt HK hk; replace HB := Aside0.mk (hb); replace HI0 := Aside0.mk (hi); (try clear hb); (try clear hb2); (try clear hk); (try clear hi); obtain ⟨hcz29_0, hcz29_1, hcz29_2, hcz29_3, hcz29_4, hcz29_5, hfz29_0, hfz29_1, hfz29_2, hfz29_3, hfz29_4, hfz29_5⟩ := cells6 BK176.out) | ((with_reducible refine gate_callee (f := 24) rfl ?_); refine goesL_ (some 23) rfl rfl Tryd.func24 (by kernel_rfl) rfl #[.pointer (some ⟨g, 0, none⟩), .int .i64 5] rfl tq ?_; (with_reducible refine (spec_l6Rd_pick.calls k g s0_0 t182 5 t183 t184 w0 _ ?side1 ?side2 A19.out).mono ?_); (case side1 => exact zi72); (case side2 => exact zb); rintro e w30 ⟨rfl, hi, hb, hk⟩; refine ⟨_, rfl, ?_⟩; replace BK169 := tBk BK169 hk NB169_0; replace HO174 := tNk HO174 hk; replace BK176 := tBq (o' := .cells #[.bool (t170 == 0), .bool false, .int .i64 t179, .int .i64 t181, .int .i64 0, .slice Ao10 t172.length co10] 25 (0, 0)) BK176 hk NB176_0; replace HK := tKt HK hk; replace HB := Aside0.mk (hb); replace HI0 := Aside0.mk (hi); (try clear hb); (try clear hb2); (try clear hk); (try clear hi); obtain ⟨hcz31_0, hcz31_1, hcz31_2, hcz31_3, hcz31_4, hcz31_5, hfz31_0, hfz31_1, hfz31_2, hfz31_3, hfz31_4, hfz31_5⟩ := cells6 BK176.out) | ((with_reducible refine gate_callee (f := 24) rfl ?_); refine goesL_ (some 26) rfl rfl Tryd.func24 (by kernel_rfl) rfl #[.pointer (some ⟨g, 0, none⟩), .int .i64 3] rfl tq ?_; (with_reducible refine (spec_l6Rd_pick.calls k g s0_0 t184 3 t185 t186 w0 _ ?side1 ?side2 A20.out).mono ?_); (case side1 => exact zi72); (case side2 => exact zb); rintro e w32 ⟨rfl, hi, hb, hk⟩; refine ⟨_, rfl, ?_⟩; replace BK169 := tBk BK169 hk NB169_0; replace HO174 := tNk HO174 hk; replace BK176 := tBq (o' := .cells #[.bool (t170 == 0), .bool false, .int .i64 t179, .int .i64 t181, .int .i64 t183, .slice Ao10 t172.length co10] 25 (0, 0)) BK176 hk NB176_0; replace HK := tKt HK hk; replace HB := Aside0.mk (hb); replace HI0 := Aside0.mk (hi); (try clear hb); (try clear hb2); (try clear hk); (try clear hi); obtain ⟨hcz33_0, hcz33_1, hcz33_2, hcz33_3, hcz33_4, hcz33_5, hfz33_0, hfz33_1, hfz33_2, hfz33_3, hfz33_4, hfz33_5⟩ := cells6 BK176.out) | ((with_reducible refine gate_callee (f := 24) rfl ?_); refine goesL_ (some 31) rfl rfl Tryd.func24 (by kernel_rfl) rfl #[.pointer (some ⟨g, 0, none⟩), .int .i64 200] rfl tq ?_; (with_reducible refine (spec_l6Rd_pick.calls k g s0_0 t186 200 t187 t188 w0 _ ?side1 ?side2 A22.out).mono ?_); (case side1 => exact zi72); (case side2 => exact zb); rintro e w34 ⟨rfl, hi, hb, hk⟩; refine ⟨_, rfl, ?_⟩; replace BK169 := tBk BK169 hk NB169_0; replace HO174 := tNk HO174 hk; replace BK176 := tBq (o' := .cells #[.bool (t170 == 0), .bool true, .int .i64 t179, .int .i64 t181, .int .i64 t183, .slice Ao10 t172.length co10] 25 (0, 0)) BK176 hk NB176_0; replace HK := tKt HK hk; replace HB := Aside0.mk (hb); replace HI0 := Aside0.mk (hi); (try clear hb); (try clear hb2); (try clear hk); (try clear hi)) | ((with_reducible refine gate_dst (N := 32) rfl ?_); refine Kd.R_lit (Kd.int .i64) _ 3 ?hg (N := 32) ?hd (xs := ([] : List Int)) (inner := []) (ok := fun _ => True) (okp := fun _ => True) ?hr ?hp (fun _ hk => hk) trivial (Below.refl _ _) (Nat.le_refl _) (by simp) ?_; (case hd => rfl); (case hg => rfl); (case hr => first | (go_simp; done) | (go_simp; rfl)); (case hp => exact (Reps.none _ _)); intro v190 w35 ho36 hb hg_ hnew_; clear hg_ hnew_; (first | rw [← Ny189.out] at ho36 | (simp only [Int.reduceToNat] at ho36; rw [← Ny189.out] at ho36)); replace HO174 := Aside0.mk (Kd.N_elder' (tN HO174.out) (Kd.R_base ho36) hb); have HO191 := Aside0.mk (Kd.R_lower (Kd.R_newM (M := fun k_ => (w.heap.size ≤ k_)) ho36 (keep_size (w := w) (g := g) (row := none) zk) (fun k_ h_ => h_)) (keep_size (w := w) (g := g) (row := none) zk)); replace HI0 := tIb72 HI0 hb; replace BK169 := tBb BK169 hb; replace BK176 := tBb BK176 hb; replace HK := tKb HK hb; replace HB := tBs HB hb; clear hb ho36) | ((with_reducible refine gate_callee (f := 24) rfl ?_); refine goesL_ (some 34) rfl rfl Tryd.func24 (by kernel_rfl) rfl #[.pointer (some ⟨g, 0, none⟩), .int .i64 2] rfl tq ?_; (with_reducible refine (spec_l6Rd_pick.calls k g s0_0 t188 2 t192 t193 w0 _ ?side1 ?side2 A23.out).mono ?_); (case side1 => exact zi72); (case side2 => exact zb); rintro e w37 ⟨rfl, hi, hb, hk⟩; refine ⟨_, rfl, ?_⟩; replace BK169 := tBk BK169 hk NB169_0; replace HO174 := tNk HO174 hk; replace BK176 := tBk BK176 hk NB176_0; replace HO191 := tRp72 HO191 HI0 hk; replace HK := tKt HK hk; replace HB := Aside0.mk (hb); replace HI0 := Aside0.mk (hi); (try clear hb); (try clear hb2); (try clear hk); (try clear hi)) | ((with_reducible refine gate_dst (N := 35) rfl ?_); refine Kd.R_lit (Kd.int .i64) _ 3 ?hg (N := 35) ?hd (xs := ([t192] : List Int)) (inner := [.int .i64 t192]) (ok := fun _ => True) (okp := fun _ => True) ?hr ?hp (fun _ hk => hk) trivial (Below.refl _ _) (Nat.le_refl _) (by simp) ?_; (case hd => rfl); (case hg => rfl); (case hr => first | (go_simp; done) | (go_simp; rfl)); (case hp => exact (Reps.one (show Kd.M (Kd.int .i64) _ _ _ t192 [.int .i64 t192] from rfl) (Reps.none _ _))); intro v195 w38 ho39 hb hg_ hnew_; clear hg_ hnew_; (first | rw [← Ny194.out] at ho39 | (simp only [Int.reduceToNat] at ho39; rw [← Ny194.out] at ho39)); replace HO174 := Aside0.mk (Kd.N_elder' (tN HO174.out) (Kd.R_base ho39) hb); have HO196 := Aside0.mk (Kd.R_lower (Kd.R_new' (Kd.R_newM (M := fun k_ => (w.heap.size ≤ k_)) ho39 (keep_size (w := w) (g := g) (row := none) zk) (fun k_ h_ => h_)) (Kd.R_lt (tR HO191.out))) (keep_size (w := w) (g := g) (row := none) zk)); replace HO191 := Aside0.mk (Kd.R_elder' (tR HO191.out) (Kd.R_base ho39) hb); replace HI0 := tIb72 HI0 hb; replace BK169 := tBb BK169 hb; replace BK176 := tBb BK176 hb; replace HK := tKb HK hb; replace HB := tBs HB hb; clear hb ho39; obtain ⟨Ao40, co40, eo40⟩ := Kd.R_slice HO196.out; subst eo40; obtain ⟨Ao41, co41, eo41⟩ := Kd.R_slice HO191.out; subst eo41) | ((with_reducible refine gate_dst (N := 37) rfl ?_); refine Kd.N_lit k41 _ 41 ?hg (N' := 37) ?hd (xs := ([(⟨a1, t187, false, y189, true, y194⟩ : S41)] : List (S41))) (inner := [.int .i64 a1, .int .i64 t187, .bool false, .slice Ao41 y189.length co41, .bool true, .slice Ao40 y194.length co40]) (ok := (fun k_ => (w.heap.size ≤ k_) ∧ some k_ ≠ (.slice Ao10 t172.length co10 : Value).ownBlock ∧ k_ ≠ gb169 ∧ k_ ≠ gb176 ∧ k_ ≠ g)) (okp := (fun k_ => (w.heap.size ≤ k_) ∧ some k_ ≠ (.slice Ao10 t172.length co10 : Value).ownBlock ∧ k_ ≠ gb169 ∧ k_ ≠ gb176 ∧ k_ ≠ g)) ?hr ?hp (fun _ hk => hk) ((show ∀ k_, w38.heap.size ≤ k_ → (fun k_ => (w.heap.size ≤ k_) ∧ some k_ ≠ (.slice Ao10 t172.length co10 : Value).ownBlock ∧ k_ ≠ gb169 ∧ k_ ≠ gb176 ∧ k_ ≠ g) k_ from fun k_ hk => ⟨(Nat.le_trans (keep_size (w := w) (g := g) (row := none) zk) hk), tfr HO174 k_ hk, tfB BK169 k_ hk, tfB BK176 k_ hk, IsS72.fresh zi72 k_ hk⟩) _ (Nat.le_refl _)) (Below.refl _ _) (Nat.le_refl _) (by simp) ?_; (case hd => rfl); (case hg => rfl); (case hr => first | (go_simp; done) | (go_simp; rfl)); (case hp => exact (Reps.c6 (show Kd.FK k41 _ _ (⟨a1, t187, false, y189, true, y194⟩ : S41) [.int .i64 a1, .int .i64 t187, .bool false, .slice Ao41 y189.length co41, .bool true, .slice Ao40 y194.length co40] from (k41_mkF _ _ (⟨a1, t187, false, y189, true, y194⟩ : S41) (Kd.R_reads' (Kd.R_mono (ok' := (fun k_ => (w.heap.size ≤ k_) ∧ some k_ ≠ (.slice Ao10 t172.length co10 : Value).ownBlock ∧ k_ ≠ gb169 ∧ k_ ≠ gb176 ∧ k_ ≠ g)) (IsS72.apart HI0.out (Kd.R_types (Kd.R_types (Kd.R_apart' (HO191.out) (Kd.N_typed HO174.out) (by decide)) BK169.out (by decide)) BK176.out (by decide)) (by decide)) (fun k_ hk => ⟨hk.1.1.1.1.1.1, ⟨hk.1.1.1.2, ⟨hk.1.1.2, ⟨hk.1.2, hk.2⟩⟩⟩⟩))).2.1 (Kd.R_F (Kd.R_mono (ok' := (fun k_ => (w.heap.size ≤ k_) ∧ some k_ ≠ (.slice Ao10 t172.length co10 : Value).ownBlock ∧ k_ ≠ gb169 ∧ k_ ≠ gb176 ∧ k_ ≠ g)) (IsS72.apart HI0.out (Kd.R_types (Kd.R_types (Kd.R_apart' (HO191.out) (Kd.N_typed HO174.out) (by decide)) BK169.out (by decide)) BK176.out (by decide)) (by decide)) (fun k_ hk => ⟨hk.1.1.1.1.1.1, ⟨hk.1.1.1.2, ⟨hk.1.1.2, ⟨hk.1.2, hk.2⟩⟩⟩⟩))) (Kd.R_reads' (Kd.R_mono (ok' := (fun k_ => (w.heap.size ≤ k_) ∧ some k_ ≠ (.slice Ao10 t172.length co10 : Value).ownBlock ∧ k_ ≠ gb169 ∧ k_ ≠ gb176 ∧ k_ ≠ g)) (IsS72.apart HI0.out (Kd.R_types (Kd.R_types (Kd.R_apart' (HO196.out) (Kd.N_typed HO174.out) (by decide)) BK169.out (by decide)) BK176.out (by decide)) (by decide)) (fun k_ hk => ⟨hk.1.1.1.1.1.1, ⟨hk.1.1.1.2, ⟨hk.1.1.2, ⟨hk.1.2, hk.2⟩⟩⟩⟩))).2.1 (Kd.R_F (Kd.R_mono (ok' := (fun k_ => (w.heap.size ≤ k_) ∧ some k_ ≠ (.slice Ao10 t172.length co10 : Value).ownBlock ∧ k_ ≠ gb169 ∧ k_ ≠ gb176 ∧ k_ ≠ g)) (IsS72.apart HI0.out (Kd.R_types (Kd.R_types (Kd.R_apart' (HO196.out) (Kd.N_typed HO174.out) (by decide)) BK169.out (by decide)) BK176.out (by decide)) (by decide)) (fun k_ hk => ⟨hk.1.1.1.1.1.1, ⟨hk.1.1.1.2, ⟨hk.1.1.2, ⟨hk.1.2, hk.2⟩⟩⟩⟩))))) (Reps.none _ _))); intro v198 w42 ho43 hb hg_ hnew_; clear hg_ hnew_; (first | rw [← Ny197.out] at ho43 | (simp only [Int.reduceToNat] at ho43; rw [← Ny197.out] at ho43)); replace HO174 := tNe HO174 ho43 hb; have HO199 := Aside0.mk (Kd.N_lower ho43 (keep_size (w := w) (g := g) (row := none) zk)); replace HI0 := tIb72 HI0 hb; replace BK169 := tBb BK169 hb; replace BK176 := tBb BK176 hb; replace HK := tKb HK hb; replace HB := tBs HB hb; clear HO191 HO196; clear hb ho43; obtain ⟨Ao44, co44, eo44⟩ := Kd.N_slice HO199.out; subst eo44; obtain ⟨hcz45_0, hcz45_1, hcz45_2, hcz45_3, hcz45_4, hcz45_5, hfz45_0, hfz45_1, hfz45_2, hfz45_3, hfz45_4, hfz45_5⟩ := cells6 BK176.out))
    go_meet
    case rel => exact ⟨_, (t193), (true), (t179), (t181), (t183), (y197), (.slice Ao44 y197.length co44), H', ⟨by first | omega | exact Nat.le_refl _⟩, ⟨tNm HO199.out⟩, ⟨tH BK169.out⟩, ⟨tP BK176.out⟩, ⟨zi72⟩, ⟨zk⟩, ⟨zb⟩⟩
   ·rw [if_neg c21] at H
    have c21b0 : (t185 == 0) = false := beq_eq_false_iff_ne.mpr c21
    have c21b1 : (t185 != 0) = true := bne_iff_ne.mpr c21
    have H' := Aside0.mk H
    clear H
    go_wp2_with (first | ((with_reducible refine gate_callee (f := 24) rfl ?_); refine goesL_ (some 17) rfl rfl Tryd.func24 (by kernel_rfl) rfl #[.pointer (some ⟨g, 0, none⟩), .int .i64 3] rfl tq ?_; (with_reducible refine (spec_l6Rd_pick.calls k g s0_0 t178 3 t179 t180 w0 _ ?side1 ?side2 A17.out).mono ?_); (case side1 => exact zi72); (case side2 => exact zb); rintro e w46 ⟨rfl, hi, hb, hk⟩; refine ⟨_, rfl, ?_⟩; replace BK169 := tBk BK169 hk NB169_0; replace HO174 := tNk HO174 hk; replace BK176 := tBk BK176 hk NB176_0; replace HK := tKt HK hk; replace HB := Aside0.mk (hb); replace HI0 := Aside0.mk (hi); (try clear hb); (try clear hb2); (try clear hk); (try clear hi); have hnb47 := NB176_169.out; have hnc47 := NB169_176.out; have hnb48 := NB176_0.out; have hnc48 := NB0_176.out; obtain ⟨hcz49_0, hcz49_1, hcz49_2, hcz49_3, hcz49_4, hcz49_5, hfz49_0, hfz49_1, hfz49_2, hfz49_3, hfz49_4, hfz49_5⟩ := cells6 BK176.out) | ((with_reducible refine gate_callee (f := 24) rfl ?_); refine goesL_ (some 20) rfl rfl Tryd.func24 (by kernel_rfl) rfl #[.pointer (some ⟨g, 0, none⟩), .int .i64 3] rfl tq ?_; (with_reducible refine (spec_l6Rd_pick.calls k g s0_0 t180 3 t181 t182 w0 _ ?side1 ?side2 A18.out).mono ?_); (case side1 => exact zi72); (case side2 => exact zb); rintro e w50 ⟨rfl, hi, hb, hk⟩; refine ⟨_, rfl, ?_⟩; replace BK169 := tBk BK169 hk NB169_0; replace HO174 := tNk HO174 hk; replace BK176 := tBq (o' := .cells #[.bool (t170 == 0), .bool false, .int .i64 t179, .int .i64 0, .int .i64 0, .slice Ao10 t172.length co10] 25 (0, 0)) BK176 hk NB176_0; replace HK := tKt HK hk; replace HB := Aside0.mk (hb); replace HI0 := Aside0.mk (hi); (try clear hb); (try clear hb2); (try clear hk); (try clear hi); obtain ⟨hcz51_0, hcz51_1, hcz51_2, hcz51_3, hcz51_4, hcz51_5, hfz51_0, hfz51_1, hfz51_2, hfz51_3, hfz51_4, hfz51_5⟩ := cells6 BK176.out) | ((with_reducible refine gate_callee (f := 24) rfl ?_); refine goesL_ (some 23) rfl rfl Tryd.func24 (by kernel_rfl) rfl #[.pointer (some ⟨g, 0, none⟩), .int .i64 5] rfl tq ?_; (with_reducible refine (spec_l6Rd_pick.calls k g s0_0 t182 5 t183 t184 w0 _ ?side1 ?side2 A19.out).mono ?_); (case side1 => exact zi72); (case side2 => exact zb); rintro e w52 ⟨rfl, hi, hb, hk⟩; refine ⟨_, rfl, ?_⟩; replace BK169 := tBk BK169 hk NB169_0; replace HO174 := tNk HO174 hk; replace BK176 := tBq (o' := .cells #[.bool (t170 == 0), .bool false, .int .i64 t179, .int .i64 t181, .int .i64 0, .slice Ao10 t172.length co10] 25 (0, 0)) BK176 hk NB176_0; replace HK := tKt HK hk; replace HB := Aside0.mk (hb); replace HI0 := Aside0.mk (hi); (try clear hb); (try clear hb2); (try clear hk); (try clear hi); obtain ⟨hcz53_0, hcz53_1, hcz53_2, hcz53_3, hcz53_4, hcz53_5, hfz53_0, hfz53_1, hfz53_2, hfz53_3, hfz53_4, hfz53_5⟩ := cells6 BK176.out) | ((with_reducible refine gate_callee (f := 24) rfl ?_); refine goesL_ (some 26) rfl rfl Tryd.func24 (by kernel_rfl) rfl #[.pointer (some ⟨g, 0, none⟩), .int .i64 3] rfl tq ?_; (with_reducible refine (spec_l6Rd_pick.calls k g s0_0 t184 3 t185 t186 w0 _ ?side1 ?side2 A20.out).mono ?_); (case side1 => exact zi72); (case side2 => exact zb); rintro e w54 ⟨rfl, hi, hb, hk⟩; refine ⟨_, rfl, ?_⟩; replace BK169 := tBk BK169 hk NB169_0; replace HO174 := tNk HO174 hk; replace BK176 := tBq (o' := .cells #[.bool (t170 == 0), .bool false, .int .i64 t179, .int .i64 t181, .int .i64 t183, .slice Ao10 t172.length co10] 25 (0, 0)) BK176 hk NB176_0; replace HK := tKt HK hk; replace HB := Aside0.mk (hb); replace HI0 := Aside0.mk (hi); (try clear hb); (try clear hb2); (try clear hk); (try clear hi)))
    go_meet
    case rel => exact ⟨_, (t186), (false), (t179), (t181), (t183), (t172), (.slice Ao10 t172.length co10), H', ⟨by first | omega | exact Nat.le_refl _⟩, ⟨tNm HO174.out⟩, ⟨tH BK169.out⟩, ⟨tH BK176.out⟩, ⟨zi72⟩, ⟨zk⟩, ⟨zb⟩⟩
  ·rw [if_neg c16] at H
   have c16b0 : (t177 == 0) = false := beq_eq_false_iff_ne.mpr c16
   have c16b1 : (t177 != 0) = true := bne_iff_ne.mpr c16
   (first | rw [c16b0] | (simp only [i64_w, i32_w]; rw [c16b0]) | skip)
   have H' := Aside0.mk H
   clear H
   go_wp2
   go_meet
   case rel => exact ⟨_, (t178), (false), (255), (0), (0), (t172), (.slice Ao10 t172.length co10), H', ⟨by first | omega | exact Nat.le_refl _⟩, ⟨tNm HO174.out⟩, ⟨tH BK169.out⟩, ⟨tH BK176.out⟩, ⟨zi72⟩, ⟨zk⟩, ⟨zb⟩⟩
 case rest =>
  clear HC6
  try clear hcz14_0; try clear hcz14_1; try clear hcz14_2; try clear hcz14_3; try clear hcz14_4; try clear hcz14_5; try clear hfz14_0; try clear hfz14_1; try clear hfz14_2; try clear hfz14_3; try clear hfz14_4; try clear hfz14_5
  obtain ⟨kq, x1001_5, x177001_5, x177002_5, x177003_5, x177004_5, x177005_5, u177005, HA, HJ5, HO_177005, BK169, BK176, HI0, HK, HB⟩ := hcut
  cases kq with
  | zero => exact absurd HA.out (by simp [spec_l91Batch.j0])
  | succ kj5 =>
   have H := HA.out
   clear HA
   simp only [spec_l91Batch.j0] at H
   replace H := tbe H
   obtain ⟨⟨t200, t201⟩, A55, H⟩ := H
   dsimp only at H
   by_cases c56 : t200 = 0
   ·rw [if_pos c56] at H
    have c56b0 : (t200 == 0) = true := beq_iff_eq.mpr c56
    have c56b1 : (t200 != 0) = false := bne_eq_false_iff_eq.mpr c56
    clear c56
    obtain ⟨y202, hy202⟩ : ∃ y_ : List Int, y_ = (([(-1), 1, 100] : List Int)) := ⟨_, rfl⟩
    replace H : ((spec_l6Rd_pick.f kj5 s0_0 t201 3).bind fun bt205 => (if 0 ≤ bt205.1 then (if bt205.1 < (y202.length : Int) then (some ((t170 == 0), x177001_5, x177002_5, rd y202 bt205.1, x177004_5, x177005_5, bt205.2)) else (none)) else (none))) = some (r1, r2, r3, r4, r5, r6, r7) := by first | (rw [hy202]; with_reducible exact H) | (have H2_ := (Option.bind_some _ _).symm.trans H; rw [hy202]; with_reducible exact H2_) | (have H2_ := (Option.bind_some _ _).symm.trans H; with_reducible exact H2_) | with_reducible exact H | (rw [hy202]; exact H) | exact H
    have Ny202 := Aside0.mk hy202
    clear hy202
    replace H := tbe H
    obtain ⟨⟨t205, t206⟩, A57, H⟩ := H
    dsimp only at H
    by_cases c58 : 0 ≤ t205
    ·rw [if_pos c58] at H
     have c58b0 : decide (0 ≤ t205) = true := decide_eq_true c58
     clear c58
     by_cases c59 : t205 < (y202.length : Int)
     ·rw [if_pos c59] at H
      have c59b0 : decide (t205 < (y202.length : Int)) = true := decide_eq_true c59
      clear c59
      simp only [Option.some.injEq, Prod.mk.injEq] at H
      obtain ⟨rfl, rfl, rfl, rfl, rfl, rfl, rfl⟩ := H
      go_wp2_with (first | ((with_reducible refine gate_callee (f := 24) rfl ?_); refine goesL_ (some 40) rfl rfl Tryd.func24 (by kernel_rfl) rfl #[.pointer (some ⟨g, 0, none⟩), .int .i64 40] rfl tq ?_; (with_reducible refine (spec_l6Rd_pick.calls kj5 g s0_0 x1001_5 40 t200 t201 w0 _ ?side1 ?side2 A55.out).mono ?_); (case side1 => exact zi72); (case side2 => exact zb); rintro e w60 ⟨rfl, hi, hb, hk⟩; refine ⟨_, rfl, ?_⟩; replace HO_177005 := tNk HO_177005 hk; replace BK169 := tBk BK169 hk NB169_0; replace BK176 := tBk BK176 hk NB176_0; replace HK := tKt HK hk; replace HB := Aside0.mk (hb); replace HI0 := Aside0.mk (hi); (try clear hb); (try clear hb2); (try clear hk); (try clear hi)) | ((with_reducible refine gate_dst (N := 43) rfl ?_); refine Kd.R_lit (Kd.int .i64) _ 3 ?hg (N := 43) ?hd (xs := ([(-1), 1, 100] : List Int)) (inner := [.int .i64 (-1), .int .i64 1, .int .i64 100]) (ok := fun _ => True) (okp := fun _ => True) ?hr ?hp (fun _ hk => hk) trivial (Below.refl _ _) (Nat.le_refl _) (by simp) ?_; (case hd => rfl); (case hg => rfl); (case hr => first | (go_simp; done) | (go_simp; rfl)); (case hp => exact (Reps.one (show Kd.M (Kd.int .i64) _ _ _ (-1) [.int .i64 (-1)] from rfl) (Reps.one (show Kd.M (Kd.int .i64) _ _ _ 1 [.int .i64 1] from rfl) (Reps.one (show Kd.M (Kd.int .i64) _ _ _ 100 [.int .i64 100] from rfl) (Reps.none _ _))))); intro v203 w61 ho62 hb hg_ hnew_; clear hg_ hnew_; (first | rw [← Ny202.out] at ho62 | (simp only [Int.reduceToNat] at ho62; rw [← Ny202.out] at ho62)); replace HO_177005 := Aside0.mk (Kd.N_elder' (tN HO_177005.out) (Kd.R_base ho62) hb); have HO204 := Aside0.mk (Kd.R_lower (Kd.R_newM (M := fun k_ => (w.heap.size ≤ k_)) ho62 (keep_size (w := w) (g := g) (row := none) zk) (fun k_ h_ => h_)) (keep_size (w := w) (g := g) (row := none) zk)); replace BK169 := tBb BK169 hb; replace BK176 := tBb BK176 hb; replace HI0 := tIb72 HI0 hb; replace HK := tKb HK hb; replace HB := tBs HB hb; clear hb ho62) | ((with_reducible refine gate_callee (f := 24) rfl ?_); refine goesL_ (some 45) rfl rfl Tryd.func24 (by kernel_rfl) rfl #[.pointer (some ⟨g, 0, none⟩), .int .i64 3] rfl tq ?_; (with_reducible refine (spec_l6Rd_pick.calls kj5 g s0_0 t201 3 t205 t206 w0 _ ?side1 ?side2 A57.out).mono ?_); (case side1 => exact zi72); (case side2 => exact zb); rintro e w63 ⟨rfl, hi, hb, hk⟩; refine ⟨_, rfl, ?_⟩; replace HO_177005 := tNk HO_177005 hk; replace BK169 := tBk BK169 hk NB169_0; replace BK176 := tBk BK176 hk NB176_0; replace HO204 := tRp72 HO204 HI0 hk; replace HK := tKt HK hk; replace HB := Aside0.mk (hb); replace HI0 := Aside0.mk (hi); (try clear hb); (try clear hb2); (try clear hk); (try clear hi); obtain ⟨Ao64, co64, eo64⟩ := Kd.R_slice HO204.out; subst eo64; have p207 : 0 ≤ (t205 : Int) := td; have q207 : t205 < (y202.length : Int) := td; obtain ⟨ad207, e207, hx207_0⟩ := Kd.at_int (Kd.R_reads' HO204.out).2.2 t205 p207 q207; cases e207; replace p207 := eq_true p207; replace q207 := eq_true q207; have hnb65 := NB176_169.out; have hnc65 := NB169_176.out; have hnb66 := NB176_0.out; have hnc66 := NB0_176.out; obtain ⟨hcz67_0, hcz67_1, hcz67_2, hcz67_3, hcz67_4, hcz67_5, hfz67_0, hfz67_1, hfz67_2, hfz67_3, hfz67_4, hfz67_5⟩ := cells6 BK176.out; have hnb68 := NB169_0.out; have hnc68 := NB0_169.out; obtain ⟨hcz69_0, hcz69_1, hcz69_2, hcz69_3, hcz69_4, hcz69_5, hfz69_0, hfz69_1, hfz69_2, hfz69_3, hfz69_4, hfz69_5⟩ := cells6 BK169.out; obtain ⟨Ao70, co70, eo70⟩ := Kd.N_slice HO_177005.out; subst eo70))
      refine bodyPost_ret (results_cell_row rfl _ _ gb169 25 #[.bool (t170 == 0), .bool x177001_5, .int .i64 x177002_5, .int .i64 (rd y202 t205), .int .i64 x177004_5, .slice Ao70 x177005_5.length co70] (0, 0) _ rfl (tP BK169.out) Tryd.underlying25 rfl (by kernel_rfl)) rfl ?_
      exact ⟨_, by first | rfl | (simp [errW_none, errW_some] <;> rfl) | (simp [*, errW_none, errW_some] <;> rfl), by (with_reducible repeat (first | apply Kd.N_alloc | apply Kd.N_drewN | apply Kd.N_drew)); exact Kd.N_mono (Kd.N_far (p := ⟨gb169, 5, none⟩) (Kd.N_far (p := ⟨gb169, 4, none⟩) (Kd.N_far (p := ⟨gb169, 3, none⟩) (Kd.N_far (p := ⟨gb169, 2, none⟩) (Kd.N_far (p := ⟨gb169, 1, none⟩) (Kd.N_far (p := ⟨gb169, 0, none⟩) (Kd.N_far (p := ⟨gb176, 3, none⟩) (Kd.N_mono (Kd.N_mono HO_177005.out (fun k_ hk => (⟨hk, hk.1.2.2.1⟩ : _ ∧ k_ ≠ gb176))) (fun k_ hk => (⟨hk, hk.1.1.2.1⟩ : _ ∧ k_ ≠ gb169))) (fun _ hk => hk.1.2) (.int .i64 (rd y202 t205))) (fun _ hk => hk.2) (.bool (t170 == 0))) (fun _ hk => hk.2) (.bool x177001_5)) (fun _ hk => hk.2) (.int .i64 x177002_5)) (fun _ hk => hk.2) (.int .i64 (rd y202 t205))) (fun _ hk => hk.2) (.int .i64 x177004_5)) (fun _ hk => hk.2) (.slice Ao70 x177005_5.length co70)) (fun _ hk => hk.1.1.1.1), zi72, zb, zk⟩
     ·rw [if_neg c59] at H
      exact absurd H (by simp)
    ·rw [if_neg c58] at H
     exact absurd H (by simp)
   ·rw [if_neg c56] at H
    have c56b0 : (t200 == 0) = false := beq_eq_false_iff_ne.mpr c56
    have c56b1 : (t200 != 0) = true := bne_iff_ne.mpr c56
    by_cases c71 : t200 = 1
    ·rw [if_pos c71] at H
     have c71b0 : (t200 == 1) = true := beq_iff_eq.mpr c71
     have c71b1 : (t200 != 1) = false := bne_eq_false_iff_eq.mpr c71
     clear c71
     by_cases c72 : 0 < (x177005_5.length : Int)
     ·rw [if_pos c72] at H
      have c72b0 : decide (0 < (x177005_5.length : Int)) = true := decide_eq_true c72
      have c72b1 : decide (0 < x177005_5.length) = true := decide_eq_true (by omega)
      clear c72
      by_cases c73 : x177005_5.length < 1759218604441
      ·rw [if_pos c73] at H
       have LMc73 := Aside0.mk c73
       clear c73
       obtain ⟨y209, hy209⟩ : ∃ y_ : List (S41), y_ = (x177005_5 ++ [(⟨(rd_T41 x177005_5 0).f0, (rd_T41 x177005_5 0).f1, (rd_T41 x177005_5 0).f2, (rd_T41 x177005_5 0).f3, (rd_T41 x177005_5 0).f4, (rd_T41 x177005_5 0).f5⟩ : S41)]) := ⟨_, rfl⟩
       replace H : (some ((t170 == 0), x177001_5, x177002_5, x177003_5, x177004_5, y209, t201)) = some (r1, r2, r3, r4, r5, r6, r7) := by first | (rw [hy209]; with_reducible exact H) | (have H2_ := (Option.bind_some _ _).symm.trans H; rw [hy209]; with_reducible exact H2_) | (have H2_ := (Option.bind_some _ _).symm.trans H; with_reducible exact H2_) | with_reducible exact H | (rw [hy209]; exact H) | exact H
       have Ny209 := Aside0.mk hy209
       clear hy209
       simp only [Option.some.injEq, Prod.mk.injEq] at H
       obtain ⟨rfl, rfl, rfl, rfl, rfl, rfl, rfl⟩ := H
       try go_wp2_with (first | ((with_reducible refine gate_callee (f := 24) rfl ?_); refine goesL_ (some 40) rfl rfl Tryd.func24 (by kernel_rfl) rfl #[.pointer (some ⟨g, 0, none⟩), .int .i64 40] rfl tq ?_; (with_reducible refine (spec_l6Rd_pick.calls kj5 g s0_0 x1001_5 40 t200 t201 w0 _ ?side1 ?side2 A55.out).mono ?_); (case side1 => exact zi72); (case side2 => exact zb); rintro e w74 ⟨rfl, hi, hb, hk⟩; refine ⟨_, rfl, ?_⟩; replace HO_177005 := tNk HO_177005 hk; replace BK169 := tBk BK169 hk NB169_0; replace BK176 := tBk BK176 hk NB176_0; replace HK := tKt HK hk; replace HB := Aside0.mk (hb); replace HI0 := Aside0.mk (hi); (try clear hb); (try clear hb2); (try clear hk); (try clear hi)))
       replace HO_177005 := Aside0.mk (Kd.N_drew HO_177005.out)
       replace BK169 := Aside0.mk (blk_drew BK169.out)
       replace BK176 := Aside0.mk (blk_drew BK176.out)
       replace HI0 := Aside0.mk (IsS72.drew HI0.out)
       replace HK := Aside0.mk (keep_drew HK.out)
       replace HB := Aside0.mk (below_drew1 HB.out)
       obtain ⟨Ao76, co76, eo76⟩ := Kd.N_slice HO_177005.out
       (first | subst eo76 | (injection eo76 with f1_ f2_ f3_; have f4_ := f1_.symm; have f5_ := f3_.symm; clear f1_ f2_ f3_; subst f4_; subst f5_))
       have p208 : 0 ≤ (0 : Int) := (by omega)
       have q208 : 0 < (x177005_5.length : Int) := td
       obtain ⟨ad208, A208_3, c208_3, A208_5, c208_5, e208, hx208_0, hx208_1, hx208_2, hx208_3, hx208_4, hx208_5, hl208_3, hi208_3, hl208_5, hi208_5⟩ := at_T41 (Kd.N_reads' HO_177005.out).2.2 0 p208 q208
       cases e208
       obtain ⟨ce208, hce208, hMe208, hcc208⟩ := Kd.N_get HO_177005.out z41 0 p208 (by first | exact q208 | exact td | (have e_ := (Kd.N_reads' HO_177005.out).1; omega))
       obtain ⟨ua208_3, uc208_3, ua208_5, uc208_5, rfl, ul208_3, ge208_3, ul208_5, ge208_5⟩ := k41_openF hMe208
       have hv208_3 := hcc208 3 _ rfl
       rw [add_field _ _ 3 (by omega)] at hv208_3
       replace hv208_3 := Option.some.inj (hv208_3.symm.trans hx208_3)
       injection hv208_3 with hva_ hvn_ hvc_
       rw [hva_] at ge208_3
       rw [hvc_] at ul208_3
       have HL208_3 := Aside0.mk (show Kd.V (Kd.int .i64) 3 _ w.heap.size _ _ ((rd_T41 x177005_5 0).f3) from Kd.V_mk ul208_3 ge208_3)
       clear hva_ hvn_ hvc_ ge208_3 ul208_3
       have hv208_5 := hcc208 5 _ rfl
       rw [add_field _ _ 5 (by omega)] at hv208_5
       replace hv208_5 := Option.some.inj (hv208_5.symm.trans hx208_5)
       injection hv208_5 with hva_ hvn_ hvc_
       rw [hva_] at ge208_5
       rw [hvc_] at ul208_5
       have HL208_5 := Aside0.mk (show Kd.V (Kd.int .i64) 3 _ w.heap.size _ _ ((rd_T41 x177005_5 0).f5) from Kd.V_mk ul208_5 ge208_5)
       clear hva_ hvn_ hvc_ ge208_5 ul208_5
       clear hcc208 hce208
       have qi208 : (0 < x177005_5.length) = True := eq_true (by omega)
       (try rw [show ((0 : Int)).toNat = 0 from rfl] at hx208_0)
       (try rw [show 0 * 6 = 0 from rfl] at hx208_0)
       (try rw [Addr.add_zero'] at hx208_0)
       (try rw [show ((0 : Int)).toNat = 0 from rfl] at hx208_1)
       (try rw [show 0 * 6 = 0 from rfl] at hx208_1)
       (try rw [Addr.add_zero'] at hx208_1)
       (try rw [show ((0 : Int)).toNat = 0 from rfl] at hx208_2)
       (try rw [show 0 * 6 = 0 from rfl] at hx208_2)
       (try rw [Addr.add_zero'] at hx208_2)
       (try rw [show ((0 : Int)).toNat = 0 from rfl] at hx208_3)
       (try rw [show 0 * 6 = 0 from rfl] at hx208_3)
       (try rw [Addr.add_zero'] at hx208_3)
       (try rw [show ((0 : Int)).toNat = 0 from rfl] at hx208_4)
       (try rw [show 0 * 6 = 0 from rfl] at hx208_4)
       (try rw [Addr.add_zero'] at hx208_4)
       (try rw [show ((0 : Int)).toNat = 0 from rfl] at hx208_5)
       (try rw [show 0 * 6 = 0 from rfl] at hx208_5)
       (try rw [Addr.add_zero'] at hx208_5)
       have HR208_3 := Aside0.mk hi208_3
       have HC208_3 := Aside0.mk hl208_3
       clear hi208_3 hl208_3
       have HR208_5 := Aside0.mk hi208_5
       have HC208_5 := Aside0.mk hl208_5
       clear hi208_5 hl208_5
       replace p208 := eq_true p208
       replace q208 := eq_true q208
       refine start_ (n := 10) (S := fun w' => w'.cell? ⟨gb176, 0, none⟩ = some (.bool (t170 == 0)) ∧ w'.cell? ⟨gb176, 1, none⟩ = some (.bool x177001_5) ∧ w'.cell? ⟨gb176, 2, none⟩ = some (.int .i64 x177002_5) ∧ w'.cell? ⟨gb176, 3, none⟩ = some (.int .i64 x177003_5) ∧ w'.cell? ⟨gb176, 4, none⟩ = some (.int .i64 x177004_5) ∧ w'.cell? ⟨gb176, 5, none⟩ = some (.slice (some ad208) x177005_5.length co76) ∧ w'.cell? ad208 = some (.int .i64 ((rd_T41 x177005_5 0).f0)) ∧ w'.cell? ⟨ad208.block, ad208.off + 1, none⟩ = some (.int .i64 ((rd_T41 x177005_5 0).f1)) ∧ w'.cell? ⟨ad208.block, ad208.off + 2, none⟩ = some (.bool ((rd_T41 x177005_5 0).f2)) ∧ w'.cell? ⟨ad208.block, ad208.off + 3, none⟩ = some (.slice A208_3 ((rd_T41 x177005_5 0).f3).length c208_3) ∧ w'.cell? ⟨ad208.block, ad208.off + 4, none⟩ = some (.bool ((rd_T41 x177005_5 0).f4)) ∧ w'.cell? ⟨ad208.block, ad208.off + 5, none⟩ = some (.slice A208_5 ((rd_T41 x177005_5 0).f5).length c208_5)) (ds := [7, 9]) #[false, false, false, false, false, false, false, false, false, false] (by kernel_rfl) rfl rfl ⟨(blk_cell BK176.out 0).trans rfl, (blk_cell BK176.out 1).trans rfl, (blk_cell BK176.out 2).trans rfl, (blk_cell BK176.out 3).trans rfl, (blk_cell BK176.out 4).trans rfl, (blk_cell BK176.out 5).trans rfl, hx208_0, hx208_1, hx208_2, hx208_3, hx208_4, hx208_5⟩ (fun hHeld => ?_); refine with_tabW spec_l91Batch.tab13 spec_l91Batch.bits13 (fun HT_ HW_ => ?_)
       generalize w74.drew = w75 at HO_177005 BK169 BK176 HI0 HK HB HL208_3 HL208_5 HR208_3 HR208_5 hx208_0 hx208_1 hx208_2 hx208_3 hx208_4 hx208_5 hHeld ⊢
       refine tpu 0 (some 51) #[true, false, false, false, false, false, false, false, false, false] ?_
       refine tpu 2 (some 53) #[true, false, true, false, false, false, false, false, false, false] ?_
       refine tta 1 (some 52) #[true, true, true, false, false, false, false, false, false, false] hHeld ?_ (hy := by rintro w' ⟨s0, s1, s2, s3, s4, s5, s6, s7, s8, s9, s10, s11⟩; go_simp; with_reducible rfl)
       refine tta 3 (some 54) #[true, true, true, true, false, false, false, false, false, false] hHeld ?_ (hy := by rintro w' ⟨s0, s1, s2, s3, s4, s5, s6, s7, s8, s9, s10, s11⟩; go_simp; with_reducible rfl)
       refine tpu 4 (some 55) #[true, true, true, true, true, false, false, false, false, false] ?_
       refine tta 5 (some 56) #[true, true, true, true, true, true, false, false, false, false] hHeld ?_ (hy := by rintro w' ⟨s0, s1, s2, s3, s4, s5, s6, s7, s8, s9, s10, s11⟩; go_simp; with_reducible rfl)
       refine one_ (i := 6) (N := some 57) #[true, true, true, true, true, true, true, false, false, false] rfl rfl (one_of HT_.out (by kernel_rfl)) (by decide) (fun K hK => ?_)
       refine value_ (w1 := ?_) (v := ?_) (by rfl) rfl ?_ ?_
       rotate_left 2
       ·go_simp
        constructor
        ·rfl
        ·rfl
       refine hK.out _ _ ⟨(blk_cell (blk_alloc BK176.out _) 0).trans rfl, (blk_cell (blk_alloc BK176.out _) 1).trans rfl, (blk_cell (blk_alloc BK176.out _) 2).trans rfl, (blk_cell (blk_alloc BK176.out _) 3).trans rfl, (blk_cell (blk_alloc BK176.out _) 4).trans rfl, (blk_cell (blk_alloc BK176.out _) 5).trans rfl, (World.cell?_alloc_lt _ _ _ (World.block_lt_of_cell? _ _ (hHeld.2.2.2.2.2.2.1))).trans (hHeld.2.2.2.2.2.2.1), (World.cell?_alloc_lt _ _ _ (World.block_lt_of_cell? _ _ (hHeld.2.2.2.2.2.2.2.1))).trans (hHeld.2.2.2.2.2.2.2.1), (World.cell?_alloc_lt _ _ _ (World.block_lt_of_cell? _ _ (hHeld.2.2.2.2.2.2.2.2.1))).trans (hHeld.2.2.2.2.2.2.2.2.1), (World.cell?_alloc_lt _ _ _ (World.block_lt_of_cell? _ _ (hHeld.2.2.2.2.2.2.2.2.2.1))).trans (hHeld.2.2.2.2.2.2.2.2.2.1), (World.cell?_alloc_lt _ _ _ (World.block_lt_of_cell? _ _ (hHeld.2.2.2.2.2.2.2.2.2.2.1))).trans (hHeld.2.2.2.2.2.2.2.2.2.2.1), (World.cell?_alloc_lt _ _ _ (World.block_lt_of_cell? _ _ (hHeld.2.2.2.2.2.2.2.2.2.2.2))).trans (hHeld.2.2.2.2.2.2.2.2.2.2.2)⟩ (fun hHeld => ?_)
       clear hK K
       refine tnm (some 57) ?_
       refine last_ (i := 7) (N := some 58) #[true, true, true, true, true, true, true, true, false, false] rfl rfl (one_of HT_.out (by kernel_rfl)) (by decide) (fun K hK => ?_)
       refine Kd.N_append_step k41 w.heap.size (by rfl) (.tmp 52) (.tmp 57) 23 41 (.agg #[(.int .i64 0), (.int .i64 0), (.bool false), (.slice none 0 0), (.bool false), (.slice none 0 0)]) 80 rfl Tryd.underlying23 info41 rfl (by decide) (by omega) (.slice (some ad208) x177005_5.length co76) x177005_5 (⟨(rd_T41 x177005_5 0).f0, (rd_T41 x177005_5 0).f1, (rd_T41 x177005_5 0).f2, (rd_T41 x177005_5 0).f3, (rd_T41 x177005_5 0).f4, (rd_T41 x177005_5 0).f5⟩ : S41) [.int .i64 ((rd_T41 x177005_5 0).f0), .int .i64 ((rd_T41 x177005_5 0).f1), .bool ((rd_T41 x177005_5 0).f2), .slice A208_3 ((rd_T41 x177005_5 0).f3).length c208_3, .bool ((rd_T41 x177005_5 0).f4), .slice A208_5 ((rd_T41 x177005_5 0).f5).length c208_5] (fun k_ => (w.heap.size ≤ k_) ∧ k_ ≠ gb169 ∧ k_ ≠ gb176 ∧ k_ ≠ g) (fun k_ => ((fun k_ => (w.heap.size ≤ k_) ∧ k_ ≠ gb169 ∧ k_ ≠ gb176 ∧ k_ ≠ g)) k_ ∧ some k_ ≠ (.slice (some ad208) x177005_5.length co76 : Value).ownBlock) rfl rfl ?aP (fun _ hk => hk) ?aF ?aO (Below.refl _ _) ?aS ?aL ?_
       (case aP => exact (k41_mkF _ _ (⟨(rd_T41 x177005_5 0).f0, (rd_T41 x177005_5 0).f1, (rd_T41 x177005_5 0).f2, (rd_T41 x177005_5 0).f3, (rd_T41 x177005_5 0).f4, (rd_T41 x177005_5 0).f5⟩ : S41) (Kd.V_reads' (Kd.V_mono (ok' := (fun k_ => ((fun k_ => (w.heap.size ≤ k_) ∧ k_ ≠ gb169 ∧ k_ ≠ gb176 ∧ k_ ≠ g)) k_ ∧ some k_ ≠ (.slice (some ad208) x177005_5.length co76 : Value).ownBlock)) (HL208_3.out) (fun k_ hk => ⟨⟨hk.1.1, ⟨hk.1.2.1, ⟨hk.1.2.2.1, hk.1.2.2.2⟩⟩⟩, hk.2⟩))).2.1 (Kd.V_F (Kd.V_mono (ok' := (fun k_ => ((fun k_ => (w.heap.size ≤ k_) ∧ k_ ≠ gb169 ∧ k_ ≠ gb176 ∧ k_ ≠ g)) k_ ∧ some k_ ≠ (.slice (some ad208) x177005_5.length co76 : Value).ownBlock)) (HL208_3.out) (fun k_ hk => ⟨⟨hk.1.1, ⟨hk.1.2.1, ⟨hk.1.2.2.1, hk.1.2.2.2⟩⟩⟩, hk.2⟩))) (Kd.V_reads' (Kd.V_mono (ok' := (fun k_ => ((fun k_ => (w.heap.size ≤ k_) ∧ k_ ≠ gb169 ∧ k_ ≠ gb176 ∧ k_ ≠ g)) k_ ∧ some k_ ≠ (.slice (some ad208) x177005_5.length co76 : Value).ownBlock)) (HL208_5.out) (fun k_ hk => ⟨⟨hk.1.1, ⟨hk.1.2.1, ⟨hk.1.2.2.1, hk.1.2.2.2⟩⟩⟩, hk.2⟩))).2.1 (Kd.V_F (Kd.V_mono (ok' := (fun k_ => ((fun k_ => (w.heap.size ≤ k_) ∧ k_ ≠ gb169 ∧ k_ ≠ gb176 ∧ k_ ≠ g)) k_ ∧ some k_ ≠ (.slice (some ad208) x177005_5.length co76 : Value).ownBlock)) (HL208_5.out) (fun k_ hk => ⟨⟨hk.1.1, ⟨hk.1.2.1, ⟨hk.1.2.2.1, hk.1.2.2.2⟩⟩⟩, hk.2⟩)))))
       (case aF => exact (fun k_ hk => ⟨(Nat.le_trans (keep_size (w := w) (g := g) (row := none) zk) hk), tfB BK169 k_ hk, tfB BK176 k_ hk, IsS72.fresh zi72 k_ hk⟩))
       (case aO => exact (tN HO_177005.out))
       (case aS => exact (keep_size (w := w) (g := g) (row := none) zk))
       (case aL => have := LMc73.out; omega)
       intro v210 w77 ho hb hg hat
       rw [← Ny209.out] at ho
       replace BK169 := Aside0.mk (blk_grown (tH BK169.out) hg (Kd.N_ne HO_177005.out BK169.out (by decide)))
       replace BK176 := Aside0.mk (blk_grown (tH BK176.out) hg (Kd.N_ne HO_177005.out BK176.out (by decide)))
       replace HL208_3 := Aside0.mk (Kd.V_afterv (ok := (fun k_ => (w.heap.size ≤ k_) ∧ k_ ≠ gb169 ∧ k_ ≠ gb176 ∧ k_ ≠ g)) (tV HL208_3.out) hg hat)
       replace HL208_5 := Aside0.mk (Kd.V_afterv (ok := (fun k_ => (w.heap.size ≤ k_) ∧ k_ ≠ gb169 ∧ k_ ≠ gb176 ∧ k_ ≠ g)) (tV HL208_5.out) hg hat)
       replace HB := Aside0.mk (below_weaken zb HL.out hb)
       replace HI0 := Aside0.mk (IsS72.grown zi72 hg (IsS72.own_neN HI0.out HO_177005.out (by decide)))
       replace HK := Aside0.mk (KeepBut.trans zk (KeepBut.of_grown hg g) (Kd.N_base2 HO_177005.out))
       have HO211 := Aside0.mk (ho)
       clear HO_177005
       clear ho hb hg hat
       obtain ⟨Ao78, co78, eo78⟩ := Kd.N_slice HO211.out
       (first | subst eo78 | (injection eo78 with f1_ f2_ f3_; have f4_ := f1_.symm; have f5_ := f3_.symm; clear f1_ f2_ f3_; subst f4_; subst f5_))
       refine hK.out _ _ ?_
       clear hK K
       refine tnm (some 58) ?_
       refine tpu 8 (some 59) #[true, true, true, true, true, true, true, true, true, false] ?_
       refine last_ (i := 9) (N := none) #[true, true, true, true, true, true, true, true, true, true] rfl rfl (one_of HT_.out (by kernel_rfl)) (by decide) (fun K hK => ?_)
       have hs79 : w77.cell? ⟨gb176, 5, none⟩ = some (.slice (some ad208) x177005_5.length co76) := (blk_cell BK176.out 5).trans rfl
       have hfs79 := blk_frozen BK176.out 5
       have hns79_0 := NB169_176.out
       have hms79_0 := NB176_169.out
       refine tsk ?_
       refine hK.out _ _ ?_
       clear hK K
       refine done_ (done_of HT_.out (by kernel_rfl)) ?_
       have hnb80 := NB176_169.out
       have hnc80 := NB169_176.out
       have hnb81 := NB176_0.out
       have hnc81 := NB0_176.out
       obtain ⟨hcz82_0, hcz82_1, hcz82_2, hcz82_3, hcz82_4, hcz82_5, hfz82_0, hfz82_1, hfz82_2, hfz82_3, hfz82_4, hfz82_5⟩ := cells6 BK176.out
       have hnb83 := NB169_0.out
       have hnc83 := NB0_169.out
       obtain ⟨hcz84_0, hcz84_1, hcz84_2, hcz84_3, hcz84_4, hcz84_5, hfz84_0, hfz84_1, hfz84_2, hfz84_3, hfz84_4, hfz84_5⟩ := cells6 BK169.out
       try go_wp2
       refine bodyPost_ret (results_cell_row rfl _ _ gb169 25 #[.bool (t170 == 0), .bool x177001_5, .int .i64 x177002_5, .int .i64 x177003_5, .int .i64 x177004_5, .slice Ao78 y209.length co78] (0, 0) _ rfl (tP BK169.out) Tryd.underlying25 rfl (by kernel_rfl)) rfl ?_
       exact ⟨_, by first | rfl | (simp [errW_none, errW_some] <;> rfl) | (simp [*, errW_none, errW_some] <;> rfl), by (with_reducible repeat (first | apply Kd.N_alloc | apply Kd.N_drewN | apply Kd.N_drew)); exact Kd.N_mono (Kd.N_far (p := ⟨gb169, 5, none⟩) (Kd.N_far (p := ⟨gb169, 4, none⟩) (Kd.N_far (p := ⟨gb169, 3, none⟩) (Kd.N_far (p := ⟨gb169, 2, none⟩) (Kd.N_far (p := ⟨gb169, 1, none⟩) (Kd.N_far (p := ⟨gb169, 0, none⟩) (Kd.N_far (p := ⟨gb176, 5, none⟩) (Kd.N_mono (Kd.N_mono HO211.out (fun k_ hk => (⟨hk, hk.2.2.1⟩ : _ ∧ k_ ≠ gb176))) (fun k_ hk => (⟨hk, hk.1.2.1⟩ : _ ∧ k_ ≠ gb169))) (fun _ hk => hk.1.2) (.slice Ao78 y209.length co78)) (fun _ hk => hk.2) (.bool (t170 == 0))) (fun _ hk => hk.2) (.bool x177001_5)) (fun _ hk => hk.2) (.int .i64 x177002_5)) (fun _ hk => hk.2) (.int .i64 x177003_5)) (fun _ hk => hk.2) (.int .i64 x177004_5)) (fun _ hk => hk.2) (.slice Ao78 y209.length co78)) (fun _ hk => hk.1.1.1), zi72, zb, zk⟩
      ·rw [if_neg c73] at H
       exact absurd H (by simp)
     ·rw [if_neg c72] at H
      exact absurd H (by simp)
    ·rw [if_neg c71] at H
     have c71b0 : (t200 == 1) = false := beq_eq_false_iff_ne.mpr c71
     have c71b1 : (t200 != 1) = true := bne_iff_ne.mpr c71
     by_cases c85 : t200 = 2
     ·rw [if_pos c85] at H
      have c85b0 : (t200 == 2) = true := beq_iff_eq.mpr c85
      have c85b1 : (t200 != 2) = false := bne_eq_false_iff_eq.mpr c85
      clear c85
      simp only [Option.some.injEq, Prod.mk.injEq] at H
      obtain ⟨rfl, rfl, rfl, rfl, rfl, rfl, rfl⟩ := H
      go_wp2_with (first | ((with_reducible refine gate_callee (f := 24) rfl ?_); refine goesL_ (some 40) rfl rfl Tryd.func24 (by kernel_rfl) rfl #[.pointer (some ⟨g, 0, none⟩), .int .i64 40] rfl tq ?_; (with_reducible refine (spec_l6Rd_pick.calls kj5 g s0_0 x1001_5 40 t200 t201 w0 _ ?side1 ?side2 A55.out).mono ?_); (case side1 => exact zi72); (case side2 => exact zb); rintro e w86 ⟨rfl, hi, hb, hk⟩; refine ⟨_, rfl, ?_⟩; replace HO_177005 := tNk HO_177005 hk; replace BK169 := tBk BK169 hk NB169_0; replace BK176 := tBk BK176 hk NB176_0; replace HK := tKt HK hk; replace HB := Aside0.mk (hb); replace HI0 := Aside0.mk (hi); (try clear hb); (try clear hb2); (try clear hk); (try clear hi); have hnb87 := NB176_169.out; have hnc87 := NB169_176.out; have hnb88 := NB176_0.out; have hnc88 := NB0_176.out; obtain ⟨hcz89_0, hcz89_1, hcz89_2, hcz89_3, hcz89_4, hcz89_5, hfz89_0, hfz89_1, hfz89_2, hfz89_3, hfz89_4, hfz89_5⟩ := cells6 BK176.out; have hnb90 := NB169_0.out; have hnc90 := NB0_169.out; obtain ⟨hcz91_0, hcz91_1, hcz91_2, hcz91_3, hcz91_4, hcz91_5, hfz91_0, hfz91_1, hfz91_2, hfz91_3, hfz91_4, hfz91_5⟩ := cells6 BK169.out; obtain ⟨Ao92, co92, eo92⟩ := Kd.N_slice HO_177005.out; subst eo92))
      refine bodyPost_ret (results_cell_row rfl _ _ gb169 25 #[.bool (t170 == 0), .bool (!x177001_5), .int .i64 x177002_5, .int .i64 x177003_5, .int .i64 x177004_5, .slice Ao92 x177005_5.length co92] (0, 0) _ rfl (tP BK169.out) Tryd.underlying25 rfl (by kernel_rfl)) rfl ?_
      exact ⟨_, by first | rfl | (simp [errW_none, errW_some] <;> rfl) | (simp [*, errW_none, errW_some] <;> rfl), by (with_reducible repeat (first | apply Kd.N_alloc | apply Kd.N_drewN | apply Kd.N_drew)); exact Kd.N_mono (Kd.N_far (p := ⟨gb169, 5, none⟩) (Kd.N_far (p := ⟨gb169, 4, none⟩) (Kd.N_far (p := ⟨gb169, 3, none⟩) (Kd.N_far (p := ⟨gb169, 2, none⟩) (Kd.N_far (p := ⟨gb169, 1, none⟩) (Kd.N_far (p := ⟨gb169, 0, none⟩) (Kd.N_far (p := ⟨gb176, 1, none⟩) (Kd.N_mono (Kd.N_mono HO_177005.out (fun k_ hk => (⟨hk, hk.2.2.1⟩ : _ ∧ k_ ≠ gb176))) (fun k_ hk => (⟨hk, hk.1.2.1⟩ : _ ∧ k_ ≠ gb169))) (fun _ hk => hk.1.2) (.bool (!x177001_5))) (fun _ hk => hk.2) (.bool (t170 == 0))) (fun _ hk => hk.2) (.bool (!x177001_5))) (fun _ hk => hk.2) (.int .i64 x177002_5)) (fun _ hk => hk.2) (.int .i64 x177003_5)) (fun _ hk => hk.2) (.int .i64 x177004_5)) (fun _ hk => hk.2) (.slice Ao92 x177005_5.length co92)) (fun _ hk => hk.1.1.1), zi72, zb, zk⟩
     ·rw [if_neg c85] at H
      have c85b0 : (t200 == 2) = false := beq_eq_false_iff_ne.mpr c85
      have c85b1 : (t200 != 2) = true := bne_iff_ne.mpr c85
      simp only [Option.some.injEq, Prod.mk.injEq] at H
      obtain ⟨rfl, rfl, rfl, rfl, rfl, rfl, rfl⟩ := H
      go_wp2_with (first | ((with_reducible refine gate_callee (f := 24) rfl ?_); refine goesL_ (some 40) rfl rfl Tryd.func24 (by kernel_rfl) rfl #[.pointer (some ⟨g, 0, none⟩), .int .i64 40] rfl tq ?_; (with_reducible refine (spec_l6Rd_pick.calls kj5 g s0_0 x1001_5 40 t200 t201 w0 _ ?side1 ?side2 A55.out).mono ?_); (case side1 => exact zi72); (case side2 => exact zb); rintro e w93 ⟨rfl, hi, hb, hk⟩; refine ⟨_, rfl, ?_⟩; replace HO_177005 := tNk HO_177005 hk; replace BK169 := tBk BK169 hk NB169_0; replace BK176 := tBk BK176 hk NB176_0; replace HK := tKt HK hk; replace HB := Aside0.mk (hb); replace HI0 := Aside0.mk (hi); (try clear hb); (try clear hb2); (try clear hk); (try clear hi); have hnb94 := NB176_169.out; have hnc94 := NB169_176.out; have hnb95 := NB176_0.out; have hnc95 := NB0_176.out; obtain ⟨hcz96_0, hcz96_1, hcz96_2, hcz96_3, hcz96_4, hcz96_5, hfz96_0, hfz96_1, hfz96_2, hfz96_3, hfz96_4, hfz96_5⟩ := cells6 BK176.out; have hnb97 := NB169_0.out; have hnc97 := NB0_169.out; obtain ⟨hcz98_0, hcz98_1, hcz98_2, hcz98_3, hcz98_4, hcz98_5, hfz98_0, hfz98_1, hfz98_2, hfz98_3, hfz98_4, hfz98_5⟩ := cells6 BK169.out; obtain ⟨Ao99, co99, eo99⟩ := Kd.N_slice HO_177005.out; subst eo99))
      refine bodyPost_ret (results_cell_row rfl _ _ gb169 25 #[.bool (t170 == 0), .bool x177001_5, .int .i64 x177002_5, .int .i64 x177003_5, .int .i64 x177004_5, .slice Ao99 x177005_5.length co99] (0, 0) _ rfl (tP BK169.out) Tryd.underlying25 rfl (by kernel_rfl)) rfl ?_
      exact ⟨_, by first | rfl | (simp [errW_none, errW_some] <;> rfl) | (simp [*, errW_none, errW_some] <;> rfl), tNm HO_177005.out, zi72, zb, zk⟩

end Go.Proofs.YtahenocndacjeaaDoor.G

namespace Go.Proofs.YtahenocndacjeaaDoor.G
open Go.RowKit Go.Proofs.YtahenocndacjeaaDoorW.PrintWords Go.Proofs.YtahenocndacjeaaDoorW.PrintLast Go.Proofs.YtahenocndacjeaaDoorW.PrintMore
attribute [local go_sem] max2_int min2_int max_two min_two max_three min_three max_four min_four   -- for this text's walks alone
set_option linter.unusedVariables false
set_option linter.unusedSimpArgs false

def spec_DrawBatchJoin.f (k : Nat) (l0 : List Int) : Option (Bool × Bool × Int × Int × Int × (List (S41)) × Bool × Bool × Int × Int × Int × (List (S41))) := (spec_l6Open.f l0).bind fun bt591 => ((spec_l6Rd_pick.f k bt591.1 bt591.2 20).bind fun bt594 => ((spec_l91Batch.f k bt591.1 bt594.2 bt594.1).bind fun bt596 => (if 0 ≤ (wrap64 ((bt596.2.2.2.2.2.1.length : Int) - 1)) then (if (wrap64 ((bt596.2.2.2.2.2.1.length : Int) - 1)) < (bt596.2.2.2.2.2.1.length : Int) then ((spec_l6Rd_pick.f k bt591.1 bt596.2.2.2.2.2.2 3).bind fun bt607 => ((spec_l6Rd_pick.f k bt591.1 bt607.2 12).bind fun bt609 => ((spec_l91Batch.f k bt591.1 bt609.2 (wrap64 ((wrap64 ((wrap64 (((rd_T41 bt596.2.2.2.2.2.1 (wrap64 ((bt596.2.2.2.2.2.1.length : Int) - 1))).f0) + 1)) + bt607.1)) - (wrap64 ((wrap64 (Int.tdiv bt609.1 11)) * 3))))).bind fun bt611 => ((spec_l6Rd_pick.f k bt591.1 bt611.2.2.2.2.2.2 3).bind fun bt621 => (if bt621.1 > 0 then (some (bt611.1, false, 255, 0, 0, bt596.2.2.2.2.2.1, bt611.1, false, 255, 0, 0, bt611.2.2.2.2.2.1)) else (some (bt596.1, bt596.2.1, bt596.2.2.1, bt596.2.2.2.1, bt596.2.2.2.2.1, bt596.2.2.2.2.2.1, bt611.1, bt611.2.1, bt611.2.2.1, bt611.2.2.2.1, bt611.2.2.2.2.1, bt611.2.2.2.2.2.1))))))) else (none)) else (none))))
def spec_DrawBatchJoin.T3 : Bool × List (List Nat × List Nat) := (true, [([], []), ([], []), ([1], [1]), ([], []), ([3], [3]), ([4], [4]), ([5], [5]), ([2, 6], [2, 6]), ([7], [7]), ([8], [8]), ([9], [9]), ([], []), ([11], [11]), ([10, 12], [10, 12]), ([], []), ([14, 12], [14]), ([15], [15]), ([16], [16]), ([13, 17], [13, 17]), ([0, 18, 15], [0, 18]), ([], []), ([20, 19, 19, 0, 1, 2, 3, 4, 5, 6, 7, 8, 9, 10, 11, 12, 13, 14, 15, 16, 17, 18, 19, 20], [19, 20])])
def spec_DrawBatchJoin.B3 : List Nat := [0, 0, 2, 0, 8, 24, 56, 126, 254, 510, 1022, 0, 2048, 8190, 0, 22528, 55296, 120832, 262142, 524287, 0, 2097151]
theorem spec_DrawBatchJoin.tab3 : rtab .any (opsOf Tryd.f15 3) = spec_DrawBatchJoin.T3 := by kernel_rfl
theorem spec_DrawBatchJoin.bits3 : waitsOk spec_DrawBatchJoin.T3.2 spec_DrawBatchJoin.B3 = true := by kernel_rfl
end Go.Proofs.YtahenocndacjeaaDoor.G

