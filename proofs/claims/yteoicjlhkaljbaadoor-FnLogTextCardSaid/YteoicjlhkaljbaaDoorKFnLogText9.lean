/- A text of seat YteoicjlhkaljbaaDoor: what the law FnLogText needs of this repo's texts (by pack.py). Not trusted: Lean checks it. -/
import Derived.Test.YteoicjlhkaljbaaDoorKFnLogText8
namespace Go.Proofs.YteoicjlhkaljbaaDoor.G
open Go.RowKit Go.Proofs.YteoicjlhkaljbaaDoorW.PrintWords Go.Proofs.YteoicjlhkaljbaaDoorW.PrintLast Go.Proofs.YteoicjlhkaljbaaDoorW.PrintMore
attribute [local go_sem] max2_int min2_int max_two min_two max_three min_three max_four min_four   -- for this text's walks alone
set_option linter.unusedVariables false
set_option linter.unusedSimpArgs false

mutual
def spec_l91Records.l0 : Nat → Int → List (S25) → Int → Int → Int → List Int → Int → Option ((List (S25)) × Int)
 | 0, _, _, _, _, _, _, _ => none
 | k + 1, x1, x7, x8, x9, x10, x1000, x1001 => if x10 < x8 then ((spec_l91Part.f k x1000 x1001).bind fun bt586 => ((spec_l91Part.f k x1000 bt586.2.2).bind fun bt591 => (if bt586.1 = true then ((spec_l6Rd_pick.f k x1000 bt591.2.2 2).bind fun bt596 => (spec_l91Records.j1 k x1 x7 x8 x9 x10 bt591.1 bt591.2.1 (bt596.1 == 0) x1000 bt596.2 x1 x9 bt586.1 bt586.2.1 false)) else (spec_l91Records.j1 k x1 x7 x8 x9 x10 bt591.1 bt591.2.1 false x1000 bt591.2.2 x1 x9 bt586.1 bt586.2.1 false)))) else (some (x7, x1001))
def spec_l91Records.j1 : Nat → Int → List (S25) → Int → Int → Int → Bool → List Int → Bool → List Int → Int → Int → Int → Bool → List Int → Bool → Option ((List (S25)) × Int)
 | 0, _, _, _, _, _, _, _, _, _, _, _, _, _, _, _ => none
 | k + 1, x1, x7, x8, x9, x10, x14, x15, x50, x1000, x1001, x586000, x586001, x586002, x586003, x586004 => if x50 = true then ((spec_l6Rd_pick.f k x1000 x1001 3).bind fun bt598 => (if x7.length < 1759218604441 then ((spec_l6Rd_pick.f k x1000 bt598.2 5).bind fun bt606 => ((spec_l6Rd_pick.f k x1000 bt606.2 30).bind fun bt608 => (spec_l91Records.l0 k (wrap64 ((wrap64 (x1 + 1)) + (wrap64 (Int.tdiv bt606.1 4)))) (x7 ++ [(⟨x586000, x586001, x586002, (([bt598.1] : List Int)), x14, x15⟩ : S25)]) x8 (mx (wrap64 ((wrap64 (x9 + bt608.1)) - 6)) 0) (wrap64 (x10 + 1)) x1000 bt608.2))) else (none))) else (if x7.length < 1759218604441 then ((spec_l6Rd_pick.f k x1000 x1001 5).bind fun bt613 => ((spec_l6Rd_pick.f k x1000 bt613.2 30).bind fun bt615 => (spec_l91Records.l0 k (wrap64 ((wrap64 (x1 + 1)) + (wrap64 (Int.tdiv bt613.1 4)))) (x7 ++ [(⟨x586000, x586001, x586002, x586003, x14, x15⟩ : S25)]) x8 (mx (wrap64 ((wrap64 (x9 + bt615.1)) - 6)) 0) (wrap64 (x10 + 1)) x1000 bt615.2))) else (none))
end
def spec_l91Records.f (k : Nat) (s0_0 : List Int) (s0_1 : Int) (a1 : Int) (a2 : Int) : Option ((List (S25)) × Int) := (spec_l6Rd_pick.f k s0_0 s0_1 a2).bind fun bt581 => ((spec_l6Rd_pick.f k s0_0 bt581.2 200).bind fun bt583 => (spec_l91Records.l0 k a1 (([] : List (S25))) (wrap64 (1 + bt581.1)) bt583.1 0 s0_0 bt583.2))
set_option maxHeartbeats 8000000 in
set_option maxRecDepth 100000 in
theorem spec_l91Records.calls (k : Nat) (g : Nat) (s0_0 : List Int) (s0_1 : Int) (a1 : Int) (a2 : Int) (r1 : List (S25)) (r2 : Int) (w0 w : World) (hI : IsS101 w0 w g s0_0 s0_1) (hB : Below w0.heap.size w0 w) (h : spec_l91Records.f k s0_0 s0_1 a1 a2 = some (r1, r2)) :
  Calls Tryd.prog 81 #[.pointer (some ⟨g, 0, none⟩), .int .i64 a1, .int .i64 a2] w fun e w' => ∃ v0_ : Value, e = .returned (v0_) ∧ Kd.S k25 25 w' w.heap.size (fun _ => True) v0_ r1 ∧ IsS101 w0 w' g s0_0 r2 ∧ Below w0.heap.size w0 w' ∧ KeepBut w w' g none := by
 have hu25 := Tryd.underlying25
 have HI0 := Aside0.mk hI
 have HK := Aside0.mk (KeepBut.refl w g none)
 have HL := Aside0.mk hB.size
 clear hI
 have HW0 := Aside0.mk hB.size
 have HB := Aside0.mk hB
 clear hB
 have H : ((spec_l6Rd_pick.f k s0_0 s0_1 a2).bind fun bt581 => ((spec_l6Rd_pick.f k s0_0 bt581.2 200).bind fun bt583 => (spec_l91Records.l0 k a1 (([] : List (S25))) (wrap64 (1 + bt581.1)) bt583.1 0 s0_0 bt583.2))) = some (r1, r2) := h
 clear h
 obtain ⟨y578, hy578⟩ : ∃ y_ : List (S25), y_ = (([] : List (S25))) := ⟨_, rfl⟩
 replace H : ((spec_l6Rd_pick.f k s0_0 s0_1 a2).bind fun bt581 => ((spec_l6Rd_pick.f k s0_0 bt581.2 200).bind fun bt583 => (spec_l91Records.l0 k a1 y578 (wrap64 (1 + bt581.1)) bt583.1 0 s0_0 bt583.2))) = some (r1, r2) := by first | (rw [hy578]; with_reducible exact H) | (have H2_ := (Option.bind_some _ _).symm.trans H; rw [hy578]; with_reducible exact H2_) | (have H2_ := (Option.bind_some _ _).symm.trans H; with_reducible exact H2_) | with_reducible exact H | (rw [hy578]; exact H) | exact H
 have Ny578 := Aside0.mk hy578
 clear hy578
 replace H := tbe H
 obtain ⟨⟨t581, t582⟩, A4, H⟩ := H
 dsimp only at H
 replace H := tbe H
 obtain ⟨⟨t583, t584⟩, A5, H⟩ := H
 dsimp only at H
 have H' := Aside0.mk H
 clear H
 go_enter Tryd.func81, Tryd.ntmps81
 go_wp2_with (first | ((with_reducible refine gate_dst (N := 16) rfl ?_); refine Kd.S_lit k25 _ 25 ?hg (N := 16) ?hd (xs := ([] : List (S25))) (inner := []) (ok := fun _ => True) (okp := fun _ => True) ?hr ?hp (fun _ hk => hk) trivial (Below.refl _ _) (Nat.le_refl _) (by simp) ?_; (case hd => rfl); (case hg => rfl); (case hr => first | (go_simp; done) | (go_simp; rfl)); (case hp => exact (Reps.none _ _)); intro v579 w6 ho7 hb hg_ hnew_; clear hg_ hnew_; (first | rw [← Ny578.out] at ho7 | (simp only [Int.reduceToNat] at ho7; rw [← Ny578.out] at ho7)); have HO580 := Aside0.mk (Kd.S_lower ho7 (keep_size (w := w) (g := g) (row := none) zk)); replace HI0 := tIb101 HI0 hb; replace HK := tKb HK hb; replace HB := tBs HB hb; clear hb ho7) | ((with_reducible refine gate_callee (f := 51) rfl ?_); refine goesL_ (some 19) rfl rfl Tryd.func51 (by kernel_rfl) rfl #[.pointer (some ⟨g, 0, none⟩), .int .i64 a2] rfl tq ?_; (with_reducible refine (spec_l6Rd_pick.calls k g s0_0 s0_1 a2 t581 t582 w0 _ ?side1 ?side2 A4.out).mono ?_); (case side1 => exact zi101); (case side2 => exact zb); rintro e w8 ⟨rfl, hi, hb, hk⟩; refine ⟨_, rfl, ?_⟩; replace HO580 := tSp101 HO580 HI0 hk; replace HK := tKt HK hk; replace HB := Aside0.mk (hb); replace HI0 := Aside0.mk (hi); (try clear hb); (try clear hb2); (try clear hk); (try clear hi)) | ((with_reducible refine gate_callee (f := 51) rfl ?_); refine goesL_ (some 22) rfl rfl Tryd.func51 (by kernel_rfl) rfl #[.pointer (some ⟨g, 0, none⟩), .int .i64 200] rfl tq ?_; (with_reducible refine (spec_l6Rd_pick.calls k g s0_0 t582 200 t583 t584 w0 _ ?side1 ?side2 A5.out).mono ?_); (case side1 => exact zi101); (case side2 => exact zb); rintro e w9 ⟨rfl, hi, hb, hk⟩; refine ⟨_, rfl, ?_⟩; replace HO580 := tSp101 HO580 HI0 hk; replace HK := tKt HK hk; replace HB := Aside0.mk (hb); replace HI0 := Aside0.mk (hi); (try clear hb); (try clear hb2); (try clear hk); (try clear hi)))
 go_loopg [1, 7, 9, 10] k (fun kq v1 v7 v9 v10 w' => ∃ (x1_1 : Int) (x7_1 : List (S25)) (x9_1 : Int) (x10_1 : Int) (x1001_1 : Int), v1 = .int .i64 x1_1 ∧ v9 = .int .i64 x9_1 ∧ v10 = .int .i64 x10_1 ∧ Aside0 (spec_l91Records.l0 kq x1_1 x7_1 (wrap64 (1 + t581)) x9_1 x10_1 s0_0 x1001_1 = some (r1, r2)) ∧ Aside0 (kq ≤ k) ∧ Aside0 (Kd.S k25 25 w' w.heap.size (fun _ => True) v7 x7_1) ∧ Aside0 (IsS101 w0 w' g s0_0 x1001_1) ∧ Aside0 (KeepBut w w' g none) ∧ Aside0 (Below w0.heap.size w0 w'))
 case atStart => exact ⟨(a1), (y578), (t583), (0), (t584), tr, tr, tr, H', ⟨Nat.le_refl _⟩, ⟨tS HO580.out⟩, ⟨zi101⟩, ⟨zk⟩, ⟨zb⟩⟩
 case round =>
  clear H'
  obtain ⟨x1_1, x7_1, x9_1, x10_1, x1001_1, rfl, rfl, rfl, HA, HK1, HO_7, HI0, HK, HB⟩ := hrel
  cases gk with
  | zero => exact absurd HA.out (by simp [spec_l91Records.l0])
  | succ k1 =>
   have H := HA.out
   clear HA
   simp only [spec_l91Records.l0] at H
   by_cases c10 : x10_1 < (wrap64 (1 + t581))
   ·rw [if_pos c10] at H
    have c10b0 : decide (x10_1 < (wrap64 (1 + t581))) = true := decide_eq_true c10
    clear c10
    replace H := tbe H
    obtain ⟨⟨t586, t587, t590⟩, A11, H⟩ := H
    dsimp only at H
    replace H := tbe H
    obtain ⟨⟨t591, t592, t595⟩, A12, H⟩ := H
    dsimp only at H
    have HC13 := Aside0.mk H
    clear H
    go_upto_region 12 with (first | ((with_reducible refine gate_dst (N := 11) rfl ?_); refine box_event ?hg (N := 11) ?hd (cs := #[.int .i64 0, .int .i64 0, .bool false, .slice none 0 0, .bool false, .slice none 0 0]) (t := 25) ?hr ?_; (case hd => rfl); (case hg => rfl); (case hr => first | (go_simp; done) | (go_simp; rfl)); intro gb585 hg w14 hbox hb; replace HO_7 := tSB HO_7 hg hb; replace HB := tBs HB hb; have BK585 := Aside0.mk (hbox); have GW585 := Aside0.mk ((by rw [hg]; exact (keep_size (w := w) (g := g) (row := none) zk) : w.heap.size ≤ gb585)); have GE585 := Aside0.mk ((Nat.le_trans HW0.out (by rw [hg]; exact (keep_size (w := w) (g := g) (row := none) zk) : w.heap.size ≤ gb585) : w0.heap.size ≤ gb585)); replace HK := tKb HK hb; have NB0_585 := Aside0.mk ((by rw [hg]; exact Nat.ne_of_lt (IsS101.lt (show IsS101 w0 _ g s0_0 x1001_1 from zi101)) : g ≠ gb585)); have NB585_0 := Aside0.mk ((by rw [hg]; exact Nat.ne_of_gt (IsS101.lt (show IsS101 w0 _ g s0_0 x1001_1 from zi101)) : gb585 ≠ g)); replace HI0 := tIb101 HI0 hb; clear hb hbox hg; have hnb15 := NB585_0.out; have hnc15 := NB0_585.out; obtain ⟨hcz16_0, hcz16_1, hcz16_2, hcz16_3, hcz16_4, hcz16_5, hfz16_0, hfz16_1, hfz16_2, hfz16_3, hfz16_4, hfz16_5⟩ := cells6 BK585.out) | ((with_reducible refine gate_callee (f := 66) rfl ?_); refine goesL_ (some 33) rfl rfl Tryd.func66 (by kernel_rfl) rfl #[.pointer (some ⟨g, 0, none⟩)] rfl tq ?_; (with_reducible refine (spec_l91Part.calls k1 g s0_0 x1001_1 t586 t587 t590 w0 _ ?side1 ?side2 A11.out).mono ?_); (case side1 => exact zi101); (case side2 => exact zb); rintro e w17 ⟨v588, rfl, ho0, hi, hb, hk⟩; have u_v588 := tsv Tryd.prog v588 ho0; refine ⟨_, rfl, ?_⟩; replace HO_7 := Aside0.mk (Kd.S_mono (Kd.S_told (Kd.S_oldK (IsS101.apartS (show IsS101 w0 _ g s0_0 x1001_1 from zi101) (tS HO_7.out) (by decide)) hk) (Kd.R_base ho0)) (fun _ h_ => h_.1)); replace BK585 := tBq (o' := .cells #[.int .i64 x1_1, .int .i64 x9_1, .bool false, .slice none 0 0, .bool false, .slice none 0 0] 25 (0, 0)) BK585 hk NB585_0; have HO589 := Aside0.mk (Kd.R_lower ho0 (keep_size (w := w) (g := g) (row := none) zk)); replace HK := tKt HK hk; replace HB := Aside0.mk (hb); replace HI0 := Aside0.mk (hi); (try clear hb); (try clear hb2); (try clear hk); (try clear hi); (try clear ho0)) | ((with_reducible refine gate_callee (f := 66) rfl ?_); refine goesL_ (some 38) rfl rfl Tryd.func66 (by kernel_rfl) rfl #[.pointer (some ⟨g, 0, none⟩)] rfl tq ?_; (with_reducible refine (spec_l91Part.calls k1 g s0_0 t590 t591 t592 t595 w0 _ ?side1 ?side2 A12.out).mono ?_); (case side1 => exact zi101); (case side2 => exact zb); rintro e w18 ⟨v593, rfl, ho0, hi, hb, hk⟩; have u_v593 := tsv Tryd.prog v593 ho0; refine ⟨_, rfl, ?_⟩; replace HO_7 := Aside0.mk (Kd.S_mono (Kd.S_told (Kd.S_oldK (IsS101.apartS (show IsS101 w0 _ g s0_0 t590 from zi101) (tS HO_7.out) (by decide)) hk) (Kd.R_base ho0)) (fun _ h_ => h_.1)); replace BK585 := tBk BK585 hk NB585_0; have HO594 := Aside0.mk (Kd.R_lower (Kd.R_new' ho0 (Kd.R_lt (tR HO589.out))) (keep_size (w := w) (g := g) (row := none) zk)); replace HO589 := Aside0.mk (Kd.R_mono (Kd.R_told (Kd.R_oldK (IsS101.apart (show IsS101 w0 _ g s0_0 t590 from zi101) (tR HO589.out) (by decide)) hk) (Kd.R_base ho0)) (fun _ h_ => h_.1)); replace HK := tKt HK hk; replace HB := Aside0.mk (hb); replace HI0 := Aside0.mk (hi); (try clear hb); (try clear hb2); (try clear hk); (try clear hi); (try clear ho0); obtain ⟨hcz19_0, hcz19_1, hcz19_2, hcz19_3, hcz19_4, hcz19_5, hfz19_0, hfz19_1, hfz19_2, hfz19_3, hfz19_4, hfz19_5⟩ := cells6 BK585.out; obtain ⟨Ao20, co20, eo20⟩ := Kd.R_slice HO589.out; subst eo20))
    (try simp only [Act.put, List.setIfInBounds_toArray, List.set_cons_zero, List.set_cons_succ])
    go_cut [50] (fun v50 wc => ∃ (kq : Nat) (x50_12 : Bool) (x1001_12 : Int), v50 = .bool x50_12 ∧ Aside0 (spec_l91Records.j1 kq x1_1 x7_1 (wrap64 (1 + t581)) x9_1 x10_1 t591 t592 x50_12 s0_0 x1001_12 x1_1 x9_1 t586 t587 false = some (r1, r2)) ∧ Aside0 (kq ≤ k1) ∧ Aside0 (Kd.S k25 25 wc w.heap.size (fun k_ => some k_ ≠ (v593 : Value).ownBlock ∧ some k_ ≠ ((.slice Ao20 t587.length co20) : Value).ownBlock ∧ k_ ≠ gb585) u7 x7_1) ∧ Aside0 (Kd.R (Kd.int .i64) 3 wc w.heap.size (fun k_ => some k_ ≠ ((.slice Ao20 t587.length co20) : Value).ownBlock) v593 t592) ∧ Aside0 (Kd.R (Kd.int .i64) 3 wc w.heap.size (fun k_ => some k_ ≠ (v593 : Value).ownBlock) (.slice Ao20 t587.length co20) t587) ∧ Aside0 (wc.heap[gb585]? = some (.cells #[.int .i64 x1_1, .int .i64 x9_1, .bool t586, (.slice Ao20 t587.length co20), .bool false, (.slice none 0 0)] 25 (0, 0))) ∧ Aside0 (IsS101 w0 wc g s0_0 x1001_12) ∧ Aside0 (KeepBut w wc g none) ∧ Aside0 (Below w0.heap.size w0 wc))
    case first =>
     have H := HC13.out
     clear HC13
     by_cases c21 : t586 = true
     ·subst c21
      rw [if_pos rfl] at H
      replace H := tbe H
      obtain ⟨⟨t596, t597⟩, A22, H⟩ := H
      dsimp only at H
      have H' := Aside0.mk H
      clear H
      go_wp2_with (first | (go_at_call 51; (with_reducible refine (spec_l6Rd_pick.calls k1 g s0_0 t595 2 t596 t597 w0 _ ?side1 ?side2 A22.out).mono ?_); (case side1 => exact zi101); (case side2 => exact zb); rintro e w23 ⟨rfl, hi, hb, hk⟩; replace HO_7 := tSp101 HO_7 HI0 hk; replace HO589 := Aside0.mk (Kd.R_mono (Kd.R_keep (IsS101.apart (show IsS101 w0 _ g s0_0 t595 from zi101) (tRt HO589.out BK585.out) (by decide)) hk (fun _ h => h.2)) (fun _ h => h.1)); replace HO594 := Aside0.mk (Kd.R_mono (Kd.R_keep (IsS101.apart (show IsS101 w0 _ g s0_0 t595 from zi101) (tRt HO594.out BK585.out) (by decide)) hk (fun _ h => h.2)) (fun _ h => h.1)); replace BK585 := tBq (o' := .cells #[.int .i64 x1_1, .int .i64 x9_1, .bool true, .slice Ao20 t587.length co20, .bool false, .slice none 0 0] 25 (0, 0)) BK585 hk NB585_0; replace HK := tKt HK hk; replace HB := Aside0.mk (hb); replace HI0 := Aside0.mk (hi); (try clear hb); (try clear hb2); (try clear hk); (try clear hi)))
      go_meet
      case rel => exact ⟨_, ((t596 == 0)), (t597), tr, H', ⟨by have := HK1.out; first | omega | exact Nat.le_refl _⟩, ⟨tSm HO_7.out⟩, ⟨tRm HO594.out⟩, ⟨tRm HO589.out⟩, ⟨tH BK585.out⟩, ⟨zi101⟩, ⟨zk⟩, ⟨zb⟩⟩
     ·replace c21 := Bool.eq_false_iff.mpr c21
      subst c21
      rw [if_neg (show ¬ (false = true) by decide)] at H
      have H' := Aside0.mk H
      clear H
      go_wp2
      go_meet
      case rel => exact ⟨_, (false), (t595), tr, H', ⟨by have := HK1.out; first | omega | exact Nat.le_refl _⟩, ⟨tSm HO_7.out⟩, ⟨tRm (Kd.R_types HO594.out BK585.out (by decide))⟩, ⟨tRm (Kd.R_types HO589.out BK585.out (by decide))⟩, ⟨tP BK585.out⟩, ⟨zi101⟩, ⟨zk⟩, ⟨zb⟩⟩
    case rest =>
     clear HC13
     try clear c10; try clear c10b0; try clear hcz16_0; try clear hcz16_1; try clear hcz16_2; try clear hcz16_3; try clear hcz16_4; try clear hcz16_5; try clear hcz19_0; try clear hcz19_1; try clear hcz19_2; try clear hcz19_3; try clear hcz19_4; try clear hcz19_5; try clear hfz16_0; try clear hfz16_1; try clear hfz16_2; try clear hfz16_3; try clear hfz16_4; try clear hfz16_5; try clear hfz19_0; try clear hfz19_1; try clear hfz19_2; try clear hfz19_3; try clear hfz19_4; try clear hfz19_5
     obtain ⟨kq, x50_12, x1001_12, rfl, HA, HJ12, HO_7, HO_15, HO_586003, BK585, HI0, HK, HB⟩ := hcut
     cases kq with
     | zero => exact absurd HA.out (by simp [spec_l91Records.j1])
     | succ kj12 =>
      have H := HA.out
      clear HA
      simp only [spec_l91Records.j1] at H
      by_cases c24 : x50_12 = true
      ·subst c24
       rw [if_pos rfl] at H
       replace H := tbe H
       obtain ⟨⟨t598, t599⟩, A25, H⟩ := H
       dsimp only at H
       obtain ⟨y600, hy600⟩ : ∃ y_ : List Int, y_ = (([t598] : List Int)) := ⟨_, rfl⟩
       replace H : (if x7_1.length < 1759218604441 then ((spec_l6Rd_pick.f kj12 s0_0 t599 5).bind fun bt606 => ((spec_l6Rd_pick.f kj12 s0_0 bt606.2 30).bind fun bt608 => (spec_l91Records.l0 kj12 (wrap64 ((wrap64 (x1_1 + 1)) + (wrap64 (Int.tdiv bt606.1 4)))) (x7_1 ++ [(⟨x1_1, x9_1, t586, y600, t591, t592⟩ : S25)]) (wrap64 (1 + t581)) (mx (wrap64 ((wrap64 (x9_1 + bt608.1)) - 6)) 0) (wrap64 (x10_1 + 1)) s0_0 bt608.2))) else (none)) = some (r1, r2) := by first | (rw [hy600]; with_reducible exact H) | (have H2_ := (Option.bind_some _ _).symm.trans H; rw [hy600]; with_reducible exact H2_) | (have H2_ := (Option.bind_some _ _).symm.trans H; with_reducible exact H2_) | with_reducible exact H | (rw [hy600]; exact H) | exact H
       have Ny600 := Aside0.mk hy600
       clear hy600
       by_cases c26 : x7_1.length < 1759218604441
       ·rw [if_pos c26] at H
        have LMc26 := Aside0.mk c26
        clear c26
        obtain ⟨y603, hy603⟩ : ∃ y_ : List (S25), y_ = (x7_1 ++ [(⟨x1_1, x9_1, t586, y600, t591, t592⟩ : S25)]) := ⟨_, rfl⟩
        replace H : ((spec_l6Rd_pick.f kj12 s0_0 t599 5).bind fun bt606 => ((spec_l6Rd_pick.f kj12 s0_0 bt606.2 30).bind fun bt608 => (spec_l91Records.l0 kj12 (wrap64 ((wrap64 (x1_1 + 1)) + (wrap64 (Int.tdiv bt606.1 4)))) y603 (wrap64 (1 + t581)) (mx (wrap64 ((wrap64 (x9_1 + bt608.1)) - 6)) 0) (wrap64 (x10_1 + 1)) s0_0 bt608.2))) = some (r1, r2) := by first | (rw [hy603]; with_reducible exact H) | (have H2_ := (Option.bind_some _ _).symm.trans H; rw [hy603]; with_reducible exact H2_) | (have H2_ := (Option.bind_some _ _).symm.trans H; with_reducible exact H2_) | with_reducible exact H | (rw [hy603]; exact H) | exact H
        have Ny603 := Aside0.mk hy603
        clear hy603
        replace H := tbe H
        obtain ⟨⟨t606, t607⟩, A27, H⟩ := H
        dsimp only at H
        replace H := tbe H
        obtain ⟨⟨t608, t609⟩, A28, H⟩ := H
        dsimp only at H
        obtain ⟨ji29, hji29⟩ : ∃ j_ : Int, (mx (wrap64 ((wrap64 (x9_1 + t608)) - 6)) 0) = j_ := ⟨_, rfl⟩
        replace H : (spec_l91Records.l0 kj12 (wrap64 ((wrap64 (x1_1 + 1)) + (wrap64 (Int.tdiv t606 4)))) y603 (wrap64 (1 + t581)) ji29 (wrap64 (x10_1 + 1)) s0_0 t609) = some (r1, r2) := by first | (rw [hji29] at H; exact H) | (simp only [hji29] at H ⊢; exact H)
        (try rw [hji29] at A25)
        (try rw [hji29] at A27)
        (try rw [hji29] at A28)
        have hji29_ : (if (wrap64 ((wrap64 (x9_1 + t608)) - 6)) < 0 then 0 else (wrap64 ((wrap64 (x9_1 + t608)) - 6))) = ji29 := hji29
        have H' := Aside0.mk H
        clear H
        go_wp2_with (first | ((with_reducible refine gate_callee (f := 51) rfl ?_); refine goesL_ (some 52) rfl rfl Tryd.func51 (by kernel_rfl) rfl #[.pointer (some ⟨g, 0, none⟩), .int .i64 3] rfl tq ?_; (with_reducible refine (spec_l6Rd_pick.calls kj12 g s0_0 x1001_12 3 t598 t599 w0 _ ?side1 ?side2 A25.out).mono ?_); (case side1 => exact zi101); (case side2 => exact zb); rintro e w30 ⟨rfl, hi, hb, hk⟩; refine ⟨_, rfl, ?_⟩; replace HO_7 := tSp101 HO_7 HI0 hk; replace HO_15 := tRp101 HO_15 HI0 hk; replace HO_586003 := tRp101 HO_586003 HI0 hk; replace BK585 := tBk BK585 hk NB585_0; replace HK := tKt HK hk; replace HB := Aside0.mk (hb); replace HI0 := Aside0.mk (hi); (try clear hb); (try clear hb2); (try clear hk); (try clear hi)) | ((with_reducible refine gate_dst (N := 53) rfl ?_); refine Kd.R_lit (Kd.int .i64) _ 3 ?hg (N := 53) ?hd (xs := ([t598] : List Int)) (inner := [.int .i64 t598]) (ok := fun _ => True) (okp := fun _ => True) ?hr ?hp (fun _ hk => hk) trivial (Below.refl _ _) (Nat.le_refl _) (by simp) ?_; (case hd => rfl); (case hg => rfl); (case hr => first | (go_simp; done) | (go_simp; rfl)); (case hp => exact (Reps.one (show Kd.M (Kd.int .i64) _ _ _ t598 [.int .i64 t598] from rfl) (Reps.none _ _))); intro v601 w31 ho32 hb hg_ hnew_; clear hg_ hnew_; (first | rw [← Ny600.out] at ho32 | (simp only [Int.reduceToNat] at ho32; rw [← Ny600.out] at ho32)); replace HO_7 := Aside0.mk (Kd.S_elder' (tS HO_7.out) (Kd.R_base ho32) hb); have HO602 := Aside0.mk (Kd.R_lower (Kd.R_new' (Kd.R_new' ho32 (Kd.R_lt (tR HO_15.out))) (Kd.R_lt (tR HO_586003.out))) (keep_size (w := w) (g := g) (row := none) zk)); replace HO_15 := Aside0.mk (Kd.R_elder' (tR HO_15.out) (Kd.R_base ho32) hb); replace HO_586003 := Aside0.mk (Kd.R_elder' (tR HO_586003.out) (Kd.R_base ho32) hb); replace BK585 := tBb BK585 hb; replace HI0 := tIb101 HI0 hb; replace HK := tKb HK hb; replace HB := tBs HB hb; clear hb ho32; obtain ⟨Ao33, co33, eo33⟩ := Kd.R_slice HO602.out; subst eo33; have hnb34 := NB585_0.out; have hnc34 := NB0_585.out; obtain ⟨hcz35_0, hcz35_1, hcz35_2, hcz35_3, hcz35_4, hcz35_5, hfz35_0, hfz35_1, hfz35_2, hfz35_3, hfz35_4, hfz35_5⟩ := cells6 BK585.out) | ((with_reducible refine gate_store (t := 23) (p := 54) rfl ?_); refine store_event (t := 23) (p := 54) (v := ?vo_w36) (w1 := (w31.setCell ⟨gb585, 3, none⟩ (.slice Ao33 y600.length co33))) ?hg ?ho ?hn ?hr ?_; (case ho => rfl); (case hg => rfl); (case hn => rfl); (case hr => first | (go_simp; done) | (go_simp; rfl)); intro w36 hw; have n0_ : Aside0 (Kd.S k25 25 w36 w.heap.size (fun k_ => some k_ ≠ (v593 : Value).ownBlock ∧ some k_ ≠ (.slice Ao20 t587.length co20 : Value).ownBlock ∧ some k_ ≠ (.slice Ao33 y600.length co33 : Value).ownBlock ∧ k_ ≠ gb585) u7 x7_1) := ⟨(by rw [hw]; exact (tSm HO_7.out))⟩; have n1_ : Aside0 (Kd.R (Kd.int .i64) 3 w36 w.heap.size (fun k_ => some k_ ≠ (.slice Ao20 t587.length co20 : Value).ownBlock ∧ some k_ ≠ (.slice Ao33 y600.length co33 : Value).ownBlock) v593 t592) := ⟨(by rw [hw]; exact (tRm (Kd.R_types HO_15.out BK585.out (by decide))))⟩; have n2_ : Aside0 (Kd.R (Kd.int .i64) 3 w36 w.heap.size (fun k_ => some k_ ≠ (v593 : Value).ownBlock ∧ some k_ ≠ (.slice Ao33 y600.length co33 : Value).ownBlock) (.slice Ao20 t587.length co20) t587) := ⟨(by rw [hw]; exact (tRm (Kd.R_types HO_586003.out BK585.out (by decide))))⟩; have n3_ : Aside0 (Kd.R (Kd.int .i64) 3 w36 w.heap.size (fun k_ => some k_ ≠ (v593 : Value).ownBlock ∧ some k_ ≠ (.slice Ao20 t587.length co20 : Value).ownBlock) (.slice Ao33 y600.length co33) y600) := ⟨(by rw [hw]; exact (tRm (Kd.R_types HO602.out BK585.out (by decide))))⟩; have n4_ : Aside0 (w36.heap[gb585]? = some (.cells #[.int .i64 x1_1, .int .i64 x9_1, .bool t586, .slice Ao33 y600.length co33, .bool false, .slice none 0 0] 25 (0, 0))) := ⟨(by rw [hw]; exact (tP BK585.out))⟩; have n5_ : Aside0 (IsS101 w0 w36 g s0_0 t599) := ⟨(by rw [hw]; exact zi101)⟩; have n6_ : Aside0 (KeepBut w w36 g none) := ⟨(by rw [hw]; exact zk)⟩; have n7_ : Aside0 (Below w0.heap.size w0 w36) := ⟨(by rw [hw]; exact zb)⟩; clear hw; clear HO_7; clear HO_15; clear HO_586003; clear HO602; clear BK585; clear HI0; clear HK; clear HB; have HO_7 := n0_; have HO_15 := n1_; have HO_586003 := n2_; have HO602 := n3_; have BK585 := n4_; have HI0 := n5_; have HK := n6_; have HB := n7_; clear n0_ n1_ n2_ n3_ n4_ n5_ n6_ n7_; obtain ⟨hcz37_0, hcz37_1, hcz37_2, hcz37_3, hcz37_4, hcz37_5, hfz37_0, hfz37_1, hfz37_2, hfz37_3, hfz37_4, hfz37_5⟩ := cells6 BK585.out) | ((with_reducible refine gate_store (t := 4) (p := 56) rfl ?_); refine store_event (t := 4) (p := 56) (v := ?vo_w38) (w1 := (w36.setCell ⟨gb585, 4, none⟩ (.bool t591))) ?hg ?ho ?hn ?hr ?_; (case ho => rfl); (case hg => rfl); (case hn => rfl); (case hr => first | (go_simp; done) | (go_simp; rfl)); intro w38 hw; have n0_ : Aside0 (Kd.S k25 25 w38 w.heap.size (fun k_ => some k_ ≠ (v593 : Value).ownBlock ∧ some k_ ≠ (.slice Ao20 t587.length co20 : Value).ownBlock ∧ some k_ ≠ (.slice Ao33 y600.length co33 : Value).ownBlock ∧ k_ ≠ gb585) u7 x7_1) := ⟨(by rw [hw]; exact (tSm HO_7.out))⟩; have n1_ : Aside0 (Kd.R (Kd.int .i64) 3 w38 w.heap.size (fun k_ => some k_ ≠ (.slice Ao20 t587.length co20 : Value).ownBlock ∧ some k_ ≠ (.slice Ao33 y600.length co33 : Value).ownBlock) v593 t592) := ⟨(by rw [hw]; exact (tRm (Kd.R_types HO_15.out BK585.out (by decide))))⟩; have n2_ : Aside0 (Kd.R (Kd.int .i64) 3 w38 w.heap.size (fun k_ => some k_ ≠ (v593 : Value).ownBlock ∧ some k_ ≠ (.slice Ao33 y600.length co33 : Value).ownBlock) (.slice Ao20 t587.length co20) t587) := ⟨(by rw [hw]; exact (tRm (Kd.R_types HO_586003.out BK585.out (by decide))))⟩; have n3_ : Aside0 (Kd.R (Kd.int .i64) 3 w38 w.heap.size (fun k_ => some k_ ≠ (v593 : Value).ownBlock ∧ some k_ ≠ (.slice Ao20 t587.length co20 : Value).ownBlock) (.slice Ao33 y600.length co33) y600) := ⟨(by rw [hw]; exact (tRm (Kd.R_types HO602.out BK585.out (by decide))))⟩; have n4_ : Aside0 (w38.heap[gb585]? = some (.cells #[.int .i64 x1_1, .int .i64 x9_1, .bool t586, .slice Ao33 y600.length co33, .bool t591, .slice none 0 0] 25 (0, 0))) := ⟨(by rw [hw]; exact (tP BK585.out))⟩; have n5_ : Aside0 (IsS101 w0 w38 g s0_0 t599) := ⟨(by rw [hw]; exact zi101)⟩; have n6_ : Aside0 (KeepBut w w38 g none) := ⟨(by rw [hw]; exact zk)⟩; have n7_ : Aside0 (Below w0.heap.size w0 w38) := ⟨(by rw [hw]; exact zb)⟩; clear hw; clear HO_7; clear HO_15; clear HO_586003; clear HO602; clear BK585; clear HI0; clear HK; clear HB; have HO_7 := n0_; have HO_15 := n1_; have HO_586003 := n2_; have HO602 := n3_; have BK585 := n4_; have HI0 := n5_; have HK := n6_; have HB := n7_; clear n0_ n1_ n2_ n3_ n4_ n5_ n6_ n7_; obtain ⟨Ao39, co39, eo39⟩ := Kd.R_slice HO_15.out; subst eo39; obtain ⟨hcz40_0, hcz40_1, hcz40_2, hcz40_3, hcz40_4, hcz40_5, hfz40_0, hfz40_1, hfz40_2, hfz40_3, hfz40_4, hfz40_5⟩ := cells6 BK585.out) | ((with_reducible refine gate_store (t := 23) (p := 58) rfl ?_); refine store_event (t := 23) (p := 58) (v := ?vo_w41) (w1 := (w38.setCell ⟨gb585, 5, none⟩ (.slice Ao39 t592.length co39))) ?hg ?ho ?hn ?hr ?_; (case ho => rfl); (case hg => rfl); (case hn => rfl); (case hr => first | (go_simp; done) | (go_simp; rfl)); intro w41 hw; have n0_ : Aside0 (Kd.S k25 25 w41 w.heap.size (fun k_ => some k_ ≠ (.slice Ao39 t592.length co39 : Value).ownBlock ∧ some k_ ≠ (.slice Ao20 t587.length co20 : Value).ownBlock ∧ some k_ ≠ (.slice Ao33 y600.length co33 : Value).ownBlock ∧ k_ ≠ gb585) u7 x7_1) := ⟨(by rw [hw]; exact (tSm HO_7.out))⟩; have n1_ : Aside0 (Kd.R (Kd.int .i64) 3 w41 w.heap.size (fun k_ => some k_ ≠ (.slice Ao20 t587.length co20 : Value).ownBlock ∧ some k_ ≠ (.slice Ao33 y600.length co33 : Value).ownBlock) (.slice Ao39 t592.length co39) t592) := ⟨(by rw [hw]; exact (tRm (Kd.R_types HO_15.out BK585.out (by decide))))⟩; have n2_ : Aside0 (Kd.R (Kd.int .i64) 3 w41 w.heap.size (fun k_ => some k_ ≠ (.slice Ao39 t592.length co39 : Value).ownBlock ∧ some k_ ≠ (.slice Ao33 y600.length co33 : Value).ownBlock) (.slice Ao20 t587.length co20) t587) := ⟨(by rw [hw]; exact (tRm (Kd.R_types HO_586003.out BK585.out (by decide))))⟩; have n3_ : Aside0 (Kd.R (Kd.int .i64) 3 w41 w.heap.size (fun k_ => some k_ ≠ (.slice Ao39 t592.length co39 : Value).ownBlock ∧ some k_ ≠ (.slice Ao20 t587.length co20 : Value).ownBlock) (.slice Ao33 y600.length co33) y600) := ⟨(by rw [hw]; exact (tRm (Kd.R_types HO602.out BK585.out (by decide))))⟩; have n4_ : Aside0 (w41.heap[gb585]? = some (.cells #[.int .i64 x1_1, .int .i64 x9_1, .bool t586, .slice Ao33 y600.length co33, .bool t591, .slice Ao39 t592.length co39] 25 (0, 0))) := ⟨(by rw [hw]; exact (tP BK585.out))⟩; have n5_ : Aside0 (IsS101 w0 w41 g s0_0 t599) := ⟨(by rw [hw]; exact zi101)⟩; have n6_ : Aside0 (KeepBut w w41 g none) := ⟨(by rw [hw]; exact zk)⟩; have n7_ : Aside0 (Below w0.heap.size w0 w41) := ⟨(by rw [hw]; exact zb)⟩; clear hw; clear HO_7; clear HO_15; clear HO_586003; clear HO602; clear BK585; clear HI0; clear HK; clear HB; have HO_7 := n0_; have HO_15 := n1_; have HO_586003 := n2_; have HO602 := n3_; have BK585 := n4_; have HI0 := n5_; have HK := n6_; have HB := n7_; clear n0_ n1_ n2_ n3_ n4_ n5_ n6_ n7_; obtain ⟨hcz42_0, hcz42_1, hcz42_2, hcz42_3, hcz42_4, hcz42_5, hfz42_0, hfz42_1, hfz42_2, hfz42_3, hfz42_4, hfz42_5⟩ := cells6 BK585.out) | ((with_reducible refine gate_builtin (b := .append) (xs := #[.tmp 59, .tmp 61]) rfl ?_); at_builtin; refine Kd.S_append k25 w.heap.size rfl (.tmp 59) (.tmp 61) 44 25 (.agg #[(.int .i64 0), (.int .i64 0), (.bool false), (.slice none 0 0), (.bool false), (.slice none 0 0)]) 80 rfl Tryd.underlying44 info25 rfl (by decide) (by omega) u7 x7_1 (⟨x1_1, x9_1, t586, y600, t591, t592⟩ : S25) [.int .i64 x1_1, .int .i64 x9_1, .bool t586, .slice Ao33 y600.length co33, .bool t591, .slice Ao39 t592.length co39] (fun k_ => some k_ ≠ (.slice Ao20 t587.length co20 : Value).ownBlock ∧ k_ ≠ gb585) (fun k_ => some k_ = (.slice Ao33 y600.length co33 : Value).ownBlock ∨ some k_ = (.slice Ao39 t592.length co39 : Value).ownBlock) rfl rfl ?aP (fun k_ hk_ => hk_.elim (fun h_ => ((Kd.R_mono (ok' := fun k_ => ((fun k_ => some k_ ≠ (.slice Ao20 t587.length co20 : Value).ownBlock ∧ k_ ≠ gb585)) k_ ∧ some k_ ≠ (u7 : Value).ownBlock) (Kd.R_types (Kd.R_apart' (HO602.out) (Kd.S_typed HO_7.out) (by decide)) BK585.out (by decide)) (fun k_ hk => ⟨⟨hk.1.1.2, hk.2⟩, hk.1.2⟩))).1 k_ h_.symm) (fun h_ => ((Kd.R_mono (ok' := fun k_ => ((fun k_ => some k_ ≠ (.slice Ao20 t587.length co20 : Value).ownBlock ∧ k_ ≠ gb585)) k_ ∧ some k_ ≠ (u7 : Value).ownBlock) (Kd.R_types (Kd.R_apart' (HO_15.out) (Kd.S_typed HO_7.out) (by decide)) BK585.out (by decide)) (fun k_ hk => ⟨⟨hk.1.1.1, hk.2⟩, hk.1.2⟩))).1 k_ h_.symm)) ?aF ?aO (Below.refl _ _) ?aS ?aL ?_; (case aP => exact k25_mkM _ _ _ (⟨x1_1, x9_1, t586, y600, t591, t592⟩ : S25) (Kd.R_mono (Kd.R_tight rfl (Kd.R_mono (ok' := fun k_ => ((fun k_ => some k_ ≠ (.slice Ao20 t587.length co20 : Value).ownBlock ∧ k_ ≠ gb585)) k_ ∧ some k_ ≠ (u7 : Value).ownBlock) (Kd.R_types (Kd.R_apart' (HO602.out) (Kd.S_typed HO_7.out) (by decide)) BK585.out (by decide)) (fun k_ hk => ⟨⟨hk.1.1.2, hk.2⟩, hk.1.2⟩))) (fun _ h_ => Or.inl h_)) (Kd.R_mono (Kd.R_tight rfl (Kd.R_mono (ok' := fun k_ => ((fun k_ => some k_ ≠ (.slice Ao20 t587.length co20 : Value).ownBlock ∧ k_ ≠ gb585)) k_ ∧ some k_ ≠ (u7 : Value).ownBlock) (Kd.R_types (Kd.R_apart' (HO_15.out) (Kd.S_typed HO_7.out) (by decide)) BK585.out (by decide)) (fun k_ hk => ⟨⟨hk.1.1.1, hk.2⟩, hk.1.2⟩))) (fun _ h_ => Or.inr (h_)))); (case aF => exact (fun k_ hk => ⟨Kd.fresh' (Kd.R_lt (tR HO_586003.out)) k_ hk, tfB BK585 k_ hk⟩)); (case aO => exact (tSm HO_7.out)); (case aS => exact (keep_size (w := w) (g := g) (row := none) zk)); (case aL => have := LMc26.out; omega); intro v604 w43 ho hb hg hat; rw [← Ny603.out] at ho; replace HO_586003 := Aside0.mk (Kd.R_over' (tR HO_586003.out) (Kd.S_typed (tS HO_7.out)) (by decide) hg); replace BK585 := Aside0.mk (blk_grown (tH BK585.out) hg (Kd.S_away HO_7.out (fun _ hk => hk.2.2.2))); replace HB := Aside0.mk (below_weaken zb HL.out hb); replace HI0 := Aside0.mk (IsS101.grown zi101 hg (IsS101.own_neS HI0.out HO_7.out (by decide))); replace HK := Aside0.mk (KeepBut.trans zk (KeepBut.of_grown hg g) (Kd.S_base2 HO_7.out)); have HO605 := Aside0.mk (ho); clear HO_7 HO602 HO_15; clear ho hb hg hat) | ((with_reducible refine gate_callee (f := 51) rfl ?_); refine goesL_ (some 66) rfl rfl Tryd.func51 (by kernel_rfl) rfl #[.pointer (some ⟨g, 0, none⟩), .int .i64 5] rfl tq ?_; (with_reducible refine (spec_l6Rd_pick.calls kj12 g s0_0 t599 5 t606 t607 w0 _ ?side1 ?side2 A27.out).mono ?_); (case side1 => exact zi101); (case side2 => exact zb); rintro e w44 ⟨rfl, hi, hb, hk⟩; refine ⟨_, rfl, ?_⟩; replace HO_586003 := tRp101 HO_586003 HI0 hk; replace BK585 := tBk BK585 hk NB585_0; replace HO605 := tSp101 HO605 HI0 hk; replace HK := tKt HK hk; replace HB := Aside0.mk (hb); replace HI0 := Aside0.mk (hi); (try clear hb); (try clear hb2); (try clear hk); (try clear hi)) | ((with_reducible refine gate_callee (f := 51) rfl ?_); refine goesL_ (some 71) rfl rfl Tryd.func51 (by kernel_rfl) rfl #[.pointer (some ⟨g, 0, none⟩), .int .i64 30] rfl tq ?_; (with_reducible refine (spec_l6Rd_pick.calls kj12 g s0_0 t607 30 t608 t609 w0 _ ?side1 ?side2 A28.out).mono ?_); (case side1 => exact zi101); (case side2 => exact zb); rintro e w45 ⟨rfl, hi, hb, hk⟩; refine ⟨_, rfl, ?_⟩; replace HO_586003 := tRp101 HO_586003 HI0 hk; replace BK585 := tBk BK585 hk NB585_0; replace HO605 := tSp101 HO605 HI0 hk; replace HK := tKt HK hk; replace HB := Aside0.mk (hb); replace HI0 := Aside0.mk (hi); (try clear hb); (try clear hb2); (try clear hk); (try clear hi)))
        go_roundg kj12
        case measure => have := HK1.out; have := HJ12.out; omega
        case rel => exact ⟨(wrap64 ((wrap64 (x1_1 + 1)) + (wrap64 (Int.tdiv t606 4)))), (y603), (ji29), (wrap64 (x10_1 + 1)), (t609), tr, (by first | rfl | (simp; done) | (simp only [← hji29] <;> (first | rfl | simp)) | (simp [*]; done)), tr, H', ⟨by have := HK1.out; have := HJ12.out; omega⟩, ⟨tSm HO605.out⟩, ⟨zi101⟩, ⟨zk⟩, ⟨zb⟩⟩
       ·rw [if_neg c26] at H
        exact absurd H (by simp)
      ·replace c24 := Bool.eq_false_iff.mpr c24
       subst c24
       rw [if_neg (show ¬ (false = true) by decide)] at H
       by_cases c46 : x7_1.length < 1759218604441
       ·rw [if_pos c46] at H
        have LMc46 := Aside0.mk c46
        clear c46
        obtain ⟨y610, hy610⟩ : ∃ y_ : List (S25), y_ = (x7_1 ++ [(⟨x1_1, x9_1, t586, t587, t591, t592⟩ : S25)]) := ⟨_, rfl⟩
        replace H : ((spec_l6Rd_pick.f kj12 s0_0 x1001_12 5).bind fun bt613 => ((spec_l6Rd_pick.f kj12 s0_0 bt613.2 30).bind fun bt615 => (spec_l91Records.l0 kj12 (wrap64 ((wrap64 (x1_1 + 1)) + (wrap64 (Int.tdiv bt613.1 4)))) y610 (wrap64 (1 + t581)) (mx (wrap64 ((wrap64 (x9_1 + bt615.1)) - 6)) 0) (wrap64 (x10_1 + 1)) s0_0 bt615.2))) = some (r1, r2) := by first | (rw [hy610]; with_reducible exact H) | (have H2_ := (Option.bind_some _ _).symm.trans H; rw [hy610]; with_reducible exact H2_) | (have H2_ := (Option.bind_some _ _).symm.trans H; with_reducible exact H2_) | with_reducible exact H | (rw [hy610]; exact H) | exact H
        have Ny610 := Aside0.mk hy610
        clear hy610
        replace H := tbe H
        obtain ⟨⟨t613, t614⟩, A47, H⟩ := H
        dsimp only at H
        replace H := tbe H
        obtain ⟨⟨t615, t616⟩, A48, H⟩ := H
        dsimp only at H
        obtain ⟨ji49, hji49⟩ : ∃ j_ : Int, (mx (wrap64 ((wrap64 (x9_1 + t615)) - 6)) 0) = j_ := ⟨_, rfl⟩
        replace H : (spec_l91Records.l0 kj12 (wrap64 ((wrap64 (x1_1 + 1)) + (wrap64 (Int.tdiv t613 4)))) y610 (wrap64 (1 + t581)) ji49 (wrap64 (x10_1 + 1)) s0_0 t616) = some (r1, r2) := by first | (rw [hji49] at H; exact H) | (simp only [hji49] at H ⊢; exact H)
        (try rw [hji49] at A47)
        (try rw [hji49] at A48)
        have hji49_ : (if (wrap64 ((wrap64 (x9_1 + t615)) - 6)) < 0 then 0 else (wrap64 ((wrap64 (x9_1 + t615)) - 6))) = ji49 := hji49
        have H' := Aside0.mk H
        clear H
        have hnb50 := NB585_0.out
        have hnc50 := NB0_585.out
        obtain ⟨hcz51_0, hcz51_1, hcz51_2, hcz51_3, hcz51_4, hcz51_5, hfz51_0, hfz51_1, hfz51_2, hfz51_3, hfz51_4, hfz51_5⟩ := cells6 BK585.out
        go_wp2_with (first | ((with_reducible refine gate_store (t := 4) (p := 56) rfl ?_); refine store_event (t := 4) (p := 56) (v := ?vo_w52) (w1 := (wc.setCell ⟨gb585, 4, none⟩ (.bool t591))) ?hg ?ho ?hn ?hr ?_; (case ho => rfl); (case hg => rfl); (case hn => rfl); (case hr => first | (go_simp; done) | (go_simp; rfl)); intro w52 hw; have n0_ : Aside0 (Kd.S k25 25 w52 w.heap.size (fun k_ => some k_ ≠ (v593 : Value).ownBlock ∧ some k_ ≠ (.slice Ao20 t587.length co20 : Value).ownBlock ∧ k_ ≠ gb585) u7 x7_1) := ⟨(by rw [hw]; exact (tSm HO_7.out))⟩; have n1_ : Aside0 (Kd.R (Kd.int .i64) 3 w52 w.heap.size (fun k_ => some k_ ≠ (.slice Ao20 t587.length co20 : Value).ownBlock) v593 t592) := ⟨(by rw [hw]; exact (tRm (Kd.R_types HO_15.out BK585.out (by decide))))⟩; have n2_ : Aside0 (Kd.R (Kd.int .i64) 3 w52 w.heap.size (fun k_ => some k_ ≠ (v593 : Value).ownBlock) (.slice Ao20 t587.length co20) t587) := ⟨(by rw [hw]; exact (tRm (Kd.R_types HO_586003.out BK585.out (by decide))))⟩; have n3_ : Aside0 (w52.heap[gb585]? = some (.cells #[.int .i64 x1_1, .int .i64 x9_1, .bool t586, .slice Ao20 t587.length co20, .bool t591, .slice none 0 0] 25 (0, 0))) := ⟨(by rw [hw]; exact (tP BK585.out))⟩; have n4_ : Aside0 (IsS101 w0 w52 g s0_0 x1001_12) := ⟨(by rw [hw]; exact zi101)⟩; have n5_ : Aside0 (KeepBut w w52 g none) := ⟨(by rw [hw]; exact zk)⟩; have n6_ : Aside0 (Below w0.heap.size w0 w52) := ⟨(by rw [hw]; exact zb)⟩; clear hw; clear HO_7; clear HO_15; clear HO_586003; clear BK585; clear HI0; clear HK; clear HB; have HO_7 := n0_; have HO_15 := n1_; have HO_586003 := n2_; have BK585 := n3_; have HI0 := n4_; have HK := n5_; have HB := n6_; clear n0_ n1_ n2_ n3_ n4_ n5_ n6_; obtain ⟨Ao53, co53, eo53⟩ := Kd.R_slice HO_15.out; subst eo53; obtain ⟨hcz54_0, hcz54_1, hcz54_2, hcz54_3, hcz54_4, hcz54_5, hfz54_0, hfz54_1, hfz54_2, hfz54_3, hfz54_4, hfz54_5⟩ := cells6 BK585.out) | ((with_reducible refine gate_store (t := 23) (p := 58) rfl ?_); refine store_event (t := 23) (p := 58) (v := ?vo_w55) (w1 := (w52.setCell ⟨gb585, 5, none⟩ (.slice Ao53 t592.length co53))) ?hg ?ho ?hn ?hr ?_; (case ho => rfl); (case hg => rfl); (case hn => rfl); (case hr => first | (go_simp; done) | (go_simp; rfl)); intro w55 hw; have n0_ : Aside0 (Kd.S k25 25 w55 w.heap.size (fun k_ => some k_ ≠ (.slice Ao53 t592.length co53 : Value).ownBlock ∧ some k_ ≠ (.slice Ao20 t587.length co20 : Value).ownBlock ∧ k_ ≠ gb585) u7 x7_1) := ⟨(by rw [hw]; exact (tSm HO_7.out))⟩; have n1_ : Aside0 (Kd.R (Kd.int .i64) 3 w55 w.heap.size (fun k_ => some k_ ≠ (.slice Ao20 t587.length co20 : Value).ownBlock) (.slice Ao53 t592.length co53) t592) := ⟨(by rw [hw]; exact (tRm (Kd.R_types HO_15.out BK585.out (by decide))))⟩; have n2_ : Aside0 (Kd.R (Kd.int .i64) 3 w55 w.heap.size (fun k_ => some k_ ≠ (.slice Ao53 t592.length co53 : Value).ownBlock) (.slice Ao20 t587.length co20) t587) := ⟨(by rw [hw]; exact (tRm (Kd.R_types HO_586003.out BK585.out (by decide))))⟩; have n3_ : Aside0 (w55.heap[gb585]? = some (.cells #[.int .i64 x1_1, .int .i64 x9_1, .bool t586, .slice Ao20 t587.length co20, .bool t591, .slice Ao53 t592.length co53] 25 (0, 0))) := ⟨(by rw [hw]; exact (tP BK585.out))⟩; have n4_ : Aside0 (IsS101 w0 w55 g s0_0 x1001_12) := ⟨(by rw [hw]; exact zi101)⟩; have n5_ : Aside0 (KeepBut w w55 g none) := ⟨(by rw [hw]; exact zk)⟩; have n6_ : Aside0 (Below w0.heap.size w0 w55) := ⟨(by rw [hw]; exact zb)⟩; clear hw; clear HO_7; clear HO_15; clear HO_586003; clear BK585; clear HI0; clear HK; clear HB; have HO_7 := n0_; have HO_15 := n1_; have HO_586003 := n2_; have BK585 := n3_; have HI0 := n4_; have HK := n5_; have HB := n6_; clear n0_ n1_ n2_ n3_ n4_ n5_ n6_; obtain ⟨hcz56_0, hcz56_1, hcz56_2, hcz56_3, hcz56_4, hcz56_5, hfz56_0, hfz56_1, hfz56_2, hfz56_3, hfz56_4, hfz56_5⟩ := cells6 BK585.out) | ((with_reducible refine gate_builtin (b := .append) (xs := #[.tmp 59, .tmp 61]) rfl ?_); at_builtin; refine Kd.S_append k25 w.heap.size rfl (.tmp 59) (.tmp 61) 44 25 (.agg #[(.int .i64 0), (.int .i64 0), (.bool false), (.slice none 0 0), (.bool false), (.slice none 0 0)]) 80 rfl Tryd.underlying44 info25 rfl (by decide) (by omega) u7 x7_1 (⟨x1_1, x9_1, t586, t587, t591, t592⟩ : S25) [.int .i64 x1_1, .int .i64 x9_1, .bool t586, .slice Ao20 t587.length co20, .bool t591, .slice Ao53 t592.length co53] (fun k_ => k_ ≠ gb585) (fun k_ => some k_ = (.slice Ao20 t587.length co20 : Value).ownBlock ∨ some k_ = (.slice Ao53 t592.length co53 : Value).ownBlock) rfl rfl ?aP (fun k_ hk_ => hk_.elim (fun h_ => ((Kd.R_mono (ok' := fun k_ => ((fun k_ => k_ ≠ gb585)) k_ ∧ some k_ ≠ (u7 : Value).ownBlock) (Kd.R_types (Kd.R_apart' (HO_586003.out) (Kd.S_typed HO_7.out) (by decide)) BK585.out (by decide)) (fun k_ hk => ⟨hk.2, hk.1.2⟩))).1 k_ h_.symm) (fun h_ => ((Kd.R_mono (ok' := fun k_ => ((fun k_ => k_ ≠ gb585)) k_ ∧ some k_ ≠ (u7 : Value).ownBlock) (Kd.R_types (Kd.R_apart' (HO_15.out) (Kd.S_typed HO_7.out) (by decide)) BK585.out (by decide)) (fun k_ hk => ⟨hk.2, hk.1.2⟩))).1 k_ h_.symm)) ?aF ?aO (Below.refl _ _) ?aS ?aL ?_; (case aP => exact k25_mkM _ _ _ (⟨x1_1, x9_1, t586, t587, t591, t592⟩ : S25) (Kd.R_mono (Kd.R_tight rfl (Kd.R_mono (ok' := fun k_ => ((fun k_ => k_ ≠ gb585)) k_ ∧ some k_ ≠ (u7 : Value).ownBlock) (Kd.R_types (Kd.R_apart' (HO_586003.out) (Kd.S_typed HO_7.out) (by decide)) BK585.out (by decide)) (fun k_ hk => ⟨hk.2, hk.1.2⟩))) (fun _ h_ => Or.inl h_)) (Kd.R_mono (Kd.R_tight rfl (Kd.R_mono (ok' := fun k_ => ((fun k_ => k_ ≠ gb585)) k_ ∧ some k_ ≠ (u7 : Value).ownBlock) (Kd.R_types (Kd.R_apart' (HO_15.out) (Kd.S_typed HO_7.out) (by decide)) BK585.out (by decide)) (fun k_ hk => ⟨hk.2, hk.1.2⟩))) (fun _ h_ => Or.inr (h_)))); (case aF => exact (fun k_ hk => tfB BK585 k_ hk)); (case aO => exact (tSm HO_7.out)); (case aS => exact (keep_size (w := w) (g := g) (row := none) zk)); (case aL => have := LMc46.out; omega); intro v611 w57 ho hb hg hat; rw [← Ny610.out] at ho; replace BK585 := Aside0.mk (blk_grown (tH BK585.out) hg (Kd.S_away HO_7.out (fun _ hk => hk.2.2))); replace HB := Aside0.mk (below_weaken zb HL.out hb); replace HI0 := Aside0.mk (IsS101.grown zi101 hg (IsS101.own_neS HI0.out HO_7.out (by decide))); replace HK := Aside0.mk (KeepBut.trans zk (KeepBut.of_grown hg g) (Kd.S_base2 HO_7.out)); have HO612 := Aside0.mk (ho); clear HO_7 HO_15 HO_586003; clear ho hb hg hat) | ((with_reducible refine gate_callee (f := 51) rfl ?_); refine goesL_ (some 66) rfl rfl Tryd.func51 (by kernel_rfl) rfl #[.pointer (some ⟨g, 0, none⟩), .int .i64 5] rfl tq ?_; (with_reducible refine (spec_l6Rd_pick.calls kj12 g s0_0 x1001_12 5 t613 t614 w0 _ ?side1 ?side2 A47.out).mono ?_); (case side1 => exact zi101); (case side2 => exact zb); rintro e w58 ⟨rfl, hi, hb, hk⟩; refine ⟨_, rfl, ?_⟩; replace BK585 := tBk BK585 hk NB585_0; replace HO612 := tSp101 HO612 HI0 hk; replace HK := tKt HK hk; replace HB := Aside0.mk (hb); replace HI0 := Aside0.mk (hi); (try clear hb); (try clear hb2); (try clear hk); (try clear hi)) | ((with_reducible refine gate_callee (f := 51) rfl ?_); refine goesL_ (some 71) rfl rfl Tryd.func51 (by kernel_rfl) rfl #[.pointer (some ⟨g, 0, none⟩), .int .i64 30] rfl tq ?_; (with_reducible refine (spec_l6Rd_pick.calls kj12 g s0_0 t614 30 t615 t616 w0 _ ?side1 ?side2 A48.out).mono ?_); (case side1 => exact zi101); (case side2 => exact zb); rintro e w59 ⟨rfl, hi, hb, hk⟩; refine ⟨_, rfl, ?_⟩; replace BK585 := tBk BK585 hk NB585_0; replace HO612 := tSp101 HO612 HI0 hk; replace HK := tKt HK hk; replace HB := Aside0.mk (hb); replace HI0 := Aside0.mk (hi); (try clear hb); (try clear hb2); (try clear hk); (try clear hi)))
        go_roundg kj12
        case measure => have := HK1.out; have := HJ12.out; omega
        case rel => exact ⟨(wrap64 ((wrap64 (x1_1 + 1)) + (wrap64 (Int.tdiv t613 4)))), (y610), (ji49), (wrap64 (x10_1 + 1)), (t616), tr, (by first | rfl | (simp; done) | (simp only [← hji49] <;> (first | rfl | simp)) | (simp [*]; done)), tr, H', ⟨by have := HK1.out; have := HJ12.out; omega⟩, ⟨tSm HO612.out⟩, ⟨zi101⟩, ⟨zk⟩, ⟨zb⟩⟩
       ·rw [if_neg c46] at H
        exact absurd H (by simp)
   ·rw [if_neg c10] at H
    have c10b0 : decide (x10_1 < (wrap64 (1 + t581))) = false := decide_eq_false c10
    clear c10
    simp only [Option.some.injEq, Prod.mk.injEq] at H
    obtain ⟨rfl, rfl⟩ := H
    go_wp2
    go_ret
    exact ⟨_, by first | rfl | (simp [errW_none, errW_some] <;> rfl) | (simp [*, errW_none, errW_some] <;> rfl), tS HO_7.out, zi101, zb, zk⟩

end Go.Proofs.YteoicjlhkaljbaaDoor.G

namespace Go.Proofs.YteoicjlhkaljbaaDoor.G
open Go.RowKit Go.Proofs.YteoicjlhkaljbaaDoorW.PrintWords Go.Proofs.YteoicjlhkaljbaaDoorW.PrintLast Go.Proofs.YteoicjlhkaljbaaDoorW.PrintMore
attribute [local go_sem] max2_int min2_int max_two min_two max_three min_three max_four min_four   -- for this text's walks alone
set_option linter.unusedVariables false
set_option linter.unusedSimpArgs false

def spec_l91Batch.j0 : Nat → List Int → Int → Bool → Bool → Int → Int → Int → List (S25) → Option (Bool × Bool × Int × Int × Int × (List (S25)) × Int)
 | 0, _, _, _, _, _, _, _, _ => none
 | k + 1, x1000, x1001, x625000, x625001, x625002, x625003, x625004, x625005 => (spec_l6Rd_pick.f k x1000 x1001 40).bind fun bt648 => (if bt648.1 = 0 then ((some (([(-1), 1, 100] : List Int) : List Int)).bind fun y650 => ((spec_l6Rd_pick.f k x1000 bt648.2 3).bind fun bt653 => (if 0 ≤ bt653.1 then (if bt653.1 < (y650.length : Int) then (some (x625000, x625001, x625002, rd y650 bt653.1, x625004, x625005, bt653.2)) else (none)) else (none)))) else (if bt648.1 = 1 then (if 0 < (x625005.length : Int) then (if x625005.length < 1759218604441 then (some (x625000, x625001, x625002, x625003, x625004, (x625005 ++ [(⟨(rd_T25 x625005 0).f0, (rd_T25 x625005 0).f1, (rd_T25 x625005 0).f2, (rd_T25 x625005 0).f3, (rd_T25 x625005 0).f4, (rd_T25 x625005 0).f5⟩ : S25)]), bt648.2)) else (none)) else (none)) else (if bt648.1 = 2 then (some (x625000, !x625001, x625002, x625003, x625004, x625005, bt648.2)) else (some (x625000, x625001, x625002, x625003, x625004, x625005, bt648.2)))))
def spec_l91Batch.f (k : Nat) (s0_0 : List Int) (s0_1 : Int) (a1 : Int) : Option (Bool × Bool × Int × Int × Int × (List (S25)) × Int) := (spec_l6Rd_pick.f k s0_0 s0_1 2).bind fun bt618 => ((spec_l91Records.f k s0_0 bt618.2 a1 4).bind fun bt620 => ((spec_l6Rd_pick.f k s0_0 bt620.2 3).bind fun bt625 => (if bt625.1 = 0 then ((spec_l6Rd_pick.f k s0_0 bt625.2 3).bind fun bt627 => ((spec_l6Rd_pick.f k s0_0 bt627.2 3).bind fun bt629 => ((spec_l6Rd_pick.f k s0_0 bt629.2 5).bind fun bt631 => ((spec_l6Rd_pick.f k s0_0 bt631.2 3).bind fun bt633 => (if bt633.1 = 0 then ((spec_l6Rd_pick.f k s0_0 bt633.2 200).bind fun bt635 => ((spec_l6Rd_pick.f k s0_0 bt635.2 2).bind fun bt640 => (spec_l91Batch.j0 k s0_0 bt640.2 (bt618.1 == 0) true bt627.1 bt629.1 bt631.1 (([(⟨a1, bt635.1, false, (([] : List Int)), true, (([bt640.1] : List Int))⟩ : S25)] : List (S25)))))) else (spec_l91Batch.j0 k s0_0 bt633.2 (bt618.1 == 0) false bt627.1 bt629.1 bt631.1 bt620.1)))))) else (spec_l91Batch.j0 k s0_0 bt625.2 (bt618.1 == 0) false 255 0 0 bt620.1))))
def spec_l91Batch.T13 : Bool × List (List Nat × List Nat) := (true, [([], []), ([0], [0]), ([], []), ([2], [2]), ([3], [3]), ([4], [4]), ([5], [5]), ([1, 6], [1, 6]), ([0, 1, 2, 3, 4, 5, 6, 7], []), ([8, 7, 7, 0, 1, 2, 3, 4, 5, 6, 7], [7, 8])])
def spec_l91Batch.B13 : List Nat := [0, 1, 0, 4, 12, 28, 60, 127, 255, 511]
theorem spec_l91Batch.tab13 : rtab .any (opsOf Tryd.f80 13) = spec_l91Batch.T13 := by kernel_rfl
theorem spec_l91Batch.bits13 : waitsOk spec_l91Batch.T13.2 spec_l91Batch.B13 = true := by kernel_rfl
set_option maxHeartbeats 8000000 in
set_option maxRecDepth 100000 in
theorem spec_l91Batch.calls (k : Nat) (g : Nat) (s0_0 : List Int) (s0_1 : Int) (a1 : Int) (r1 : Bool) (r2 : Bool) (r3 : Int) (r4 : Int) (r5 : Int) (r6 : List (S25)) (r7 : Int) (w0 w : World) (hI : IsS101 w0 w g s0_0 s0_1) (hB : Below w0.heap.size w0 w) (h : spec_l91Batch.f k s0_0 s0_1 a1 = some (r1, r2, r3, r4, r5, r6, r7)) :
  Calls Tryd.prog 80 #[.pointer (some ⟨g, 0, none⟩), .int .i64 a1] w fun e w' => ∃ v5_ : Value, e = .returned (.agg #[.bool r1, .bool r2, .int .i64 r3, .int .i64 r4, .int .i64 r5, v5_]) ∧ Kd.N k25 25 w' w.heap.size (fun k_ => (w.heap.size ≤ k_)) v5_ r6 ∧ IsS101 w0 w' g s0_0 r7 ∧ Below w0.heap.size w0 w' ∧ KeepBut w w' g none := by
 have hu84 := Tryd.underlying84
 have hu25 := Tryd.underlying25
 have HI0 := Aside0.mk hI
 have HK := Aside0.mk (KeepBut.refl w g none)
 have HL := Aside0.mk hB.size
 clear hI
 have HW0 := Aside0.mk hB.size
 have HB := Aside0.mk hB
 clear hB
 have H : ((spec_l6Rd_pick.f k s0_0 s0_1 2).bind fun bt618 => ((spec_l91Records.f k s0_0 bt618.2 a1 4).bind fun bt620 => ((spec_l6Rd_pick.f k s0_0 bt620.2 3).bind fun bt625 => (if bt625.1 = 0 then ((spec_l6Rd_pick.f k s0_0 bt625.2 3).bind fun bt627 => ((spec_l6Rd_pick.f k s0_0 bt627.2 3).bind fun bt629 => ((spec_l6Rd_pick.f k s0_0 bt629.2 5).bind fun bt631 => ((spec_l6Rd_pick.f k s0_0 bt631.2 3).bind fun bt633 => (if bt633.1 = 0 then ((spec_l6Rd_pick.f k s0_0 bt633.2 200).bind fun bt635 => ((spec_l6Rd_pick.f k s0_0 bt635.2 2).bind fun bt640 => (spec_l91Batch.j0 k s0_0 bt640.2 (bt618.1 == 0) true bt627.1 bt629.1 bt631.1 (([(⟨a1, bt635.1, false, (([] : List Int)), true, (([bt640.1] : List Int))⟩ : S25)] : List (S25)))))) else (spec_l91Batch.j0 k s0_0 bt633.2 (bt618.1 == 0) false bt627.1 bt629.1 bt631.1 bt620.1)))))) else (spec_l91Batch.j0 k s0_0 bt625.2 (bt618.1 == 0) false 255 0 0 bt620.1))))) = some (r1, r2, r3, r4, r5, r6, r7) := h
 clear h
 replace H := tbe H
 obtain ⟨⟨t618, t619⟩, A3, H⟩ := H
 dsimp only at H
 replace H := tbe H
 obtain ⟨⟨t620, t623⟩, A4, H⟩ := H
 dsimp only at H
 replace H := tbe H
 obtain ⟨⟨t625, t626⟩, A5, H⟩ := H
 dsimp only at H
 have HC6 := Aside0.mk H
 clear H
 go_enter Tryd.func80, Tryd.ntmps80
 go_upto_if 15 with (first | ((with_reducible refine gate_dst (N := 4) rfl ?_); refine box_event ?hg (N := 4) ?hd (cs := #[.bool false, .bool false, .int .i64 0, .int .i64 0, .int .i64 0, .slice none 0 0]) (t := 84) ?hr ?_; (case hd => rfl); (case hg => rfl); (case hr => first | (go_simp; done) | (go_simp; rfl)); intro gb617 hg w7 hbox hb; replace HB := tBs HB hb; have BK617 := Aside0.mk (hbox); have GW617 := Aside0.mk ((by rw [hg]; exact (keep_size (w := w) (g := g) (row := none) zk) : w.heap.size ≤ gb617)); have GE617 := Aside0.mk ((Nat.le_trans HW0.out (by rw [hg]; exact (keep_size (w := w) (g := g) (row := none) zk) : w.heap.size ≤ gb617) : w0.heap.size ≤ gb617)); replace HK := tKb HK hb; have NB0_617 := Aside0.mk ((by rw [hg]; exact Nat.ne_of_lt (IsS101.lt (show IsS101 w0 _ g s0_0 s0_1 from zi101)) : g ≠ gb617)); have NB617_0 := Aside0.mk ((by rw [hg]; exact Nat.ne_of_gt (IsS101.lt (show IsS101 w0 _ g s0_0 s0_1 from zi101)) : gb617 ≠ g)); replace HI0 := tIb101 HI0 hb; clear hb hbox hg) | ((with_reducible refine gate_callee (f := 51) rfl ?_); refine goesL_ (some 7) rfl rfl Tryd.func51 (by kernel_rfl) rfl #[.pointer (some ⟨g, 0, none⟩), .int .i64 2] rfl tq ?_; (with_reducible refine (spec_l6Rd_pick.calls k g s0_0 s0_1 2 t618 t619 w0 _ ?side1 ?side2 A3.out).mono ?_); (case side1 => exact zi101); (case side2 => exact zb); rintro e w8 ⟨rfl, hi, hb, hk⟩; refine ⟨_, rfl, ?_⟩; replace BK617 := tBk BK617 hk NB617_0; replace HK := tKt HK hk; replace HB := Aside0.mk (hb); replace HI0 := Aside0.mk (hi); (try clear hb); (try clear hb2); (try clear hk); (try clear hi)) | ((with_reducible refine gate_callee (f := 81) rfl ?_); refine goesL_ (some 11) rfl rfl Tryd.func81 (by kernel_rfl) rfl #[.pointer (some ⟨g, 0, none⟩), .int .i64 a1, .int .i64 4] rfl tq ?_; (with_reducible refine (spec_l91Records.calls k g s0_0 t619 a1 4 t620 t623 w0 _ ?side1 ?side2 A4.out).mono ?_); (case side1 => exact zi101); (case side2 => exact zb); rintro e w9 ⟨v621, rfl, ho0, hi, hb, hk⟩; have u_v621 := tsv Tryd.prog v621 ho0; refine ⟨_, rfl, ?_⟩; have HO622 := Aside0.mk (Kd.N_lower (Kd.N_mono (ok' := fun k_ => (w.heap.size ≤ k_) ∧ k_ ≠ gb617 ∧ k_ ≠ g) (Kd.S_N (Kd.S_bound ho0)) (fun k_ hk_ => ⟨(Nat.le_trans (keep_size (w := w) (g := g) (row := none) zk) hk_.2.1), (tfB BK617 k_ hk_.2.1), (IsS101.fresh zi101 k_ hk_.2.1)⟩)) (keep_size (w := w) (g := g) (row := none) zk)); replace BK617 := tBk BK617 hk NB617_0; replace HK := tKt HK hk; replace HB := Aside0.mk (hb); replace HI0 := Aside0.mk (hi); (try clear hb); (try clear hb2); (try clear hk); (try clear hi); (try clear ho0); obtain ⟨Ao10, co10, eo10⟩ := Kd.N_slice HO622.out; subst eo10) | ((with_reducible refine gate_dst (N := 5) rfl ?_); refine box_event ?hg (N := 5) ?hd (cs := #[.bool false, .bool false, .int .i64 0, .int .i64 0, .int .i64 0, .slice none 0 0]) (t := 84) ?hr ?_; (case hd => rfl); (case hg => rfl); (case hr => first | (go_simp; done) | (go_simp; rfl)); intro gb624 hg w11 hbox hb; replace HO622 := tNB HO622 hg hb; replace HB := tBs HB hb; have BK624 := Aside0.mk (hbox); have GW624 := Aside0.mk ((by rw [hg]; exact (keep_size (w := w) (g := g) (row := none) zk) : w.heap.size ≤ gb624)); have GE624 := Aside0.mk ((Nat.le_trans HW0.out (by rw [hg]; exact (keep_size (w := w) (g := g) (row := none) zk) : w.heap.size ≤ gb624) : w0.heap.size ≤ gb624)); replace HK := tKb HK hb; have NB617_624 := tlt BK617 hg; have NB624_617 := tgt BK617 hg; replace BK617 := tBb BK617 hb; have NB0_624 := Aside0.mk ((by rw [hg]; exact Nat.ne_of_lt (IsS101.lt (show IsS101 w0 _ g s0_0 t623 from zi101)) : g ≠ gb624)); have NB624_0 := Aside0.mk ((by rw [hg]; exact Nat.ne_of_gt (IsS101.lt (show IsS101 w0 _ g s0_0 t623 from zi101)) : gb624 ≠ g)); replace HI0 := tIb101 HI0 hb; clear hb hbox hg; have hnb12 := NB624_617.out; have hnc12 := NB617_624.out; have hnb13 := NB624_0.out; have hnc13 := NB0_624.out; obtain ⟨hcz14_0, hcz14_1, hcz14_2, hcz14_3, hcz14_4, hcz14_5, hfz14_0, hfz14_1, hfz14_2, hfz14_3, hfz14_4, hfz14_5⟩ := cells6 BK624.out) | ((with_reducible refine gate_callee (f := 51) rfl ?_); refine goesL_ (some 14) rfl rfl Tryd.func51 (by kernel_rfl) rfl #[.pointer (some ⟨g, 0, none⟩), .int .i64 3] rfl tq ?_; (with_reducible refine (spec_l6Rd_pick.calls k g s0_0 t623 3 t625 t626 w0 _ ?side1 ?side2 A5.out).mono ?_); (case side1 => exact zi101); (case side2 => exact zb); rintro e w15 ⟨rfl, hi, hb, hk⟩; refine ⟨_, rfl, ?_⟩; replace BK617 := tBk BK617 hk NB617_0; replace HO622 := tNk HO622 hk; replace BK624 := tBq (o' := .cells #[.bool (t618 == 0), .bool false, .int .i64 255, .int .i64 0, .int .i64 0, .slice Ao10 t620.length co10] 84 (0, 0)) BK624 hk NB624_0; replace HK := tKt HK hk; replace HB := Aside0.mk (hb); replace HI0 := Aside0.mk (hi); (try clear hb); (try clear hb2); (try clear hk); (try clear hi)))
 (try simp only [Act.put, List.setIfInBounds_toArray, List.set_cons_zero, List.set_cons_succ])
 go_cut [] (fun wc => ∃ (kq : Nat) (x1001_5 : Int) (x625001_5 : Bool) (x625002_5 : Int) (x625003_5 : Int) (x625004_5 : Int) (x625005_5 : List (S25)) (u625005 : Value), Aside0 (spec_l91Batch.j0 kq s0_0 x1001_5 (t618 == 0) x625001_5 x625002_5 x625003_5 x625004_5 x625005_5 = some (r1, r2, r3, r4, r5, r6, r7)) ∧ Aside0 (kq ≤ k) ∧ Aside0 (Kd.N k25 25 wc w.heap.size (fun k_ => (w.heap.size ≤ k_) ∧ k_ ≠ gb617 ∧ k_ ≠ gb624 ∧ k_ ≠ g) u625005 x625005_5) ∧ Aside0 (wc.heap[gb617]? = some (.cells #[.bool false, .bool false, .int .i64 0, .int .i64 0, .int .i64 0, (.slice none 0 0)] 84 (0, 0))) ∧ Aside0 (wc.heap[gb624]? = some (.cells #[.bool (t618 == 0), .bool x625001_5, .int .i64 x625002_5, .int .i64 x625003_5, .int .i64 x625004_5, u625005] 84 (0, 0))) ∧ Aside0 (IsS101 w0 wc g s0_0 x1001_5) ∧ Aside0 (KeepBut w wc g none) ∧ Aside0 (Below w0.heap.size w0 wc))
 case first =>
  have H := HC6.out
  clear HC6
  by_cases c16 : t625 = 0
  ·rw [if_pos c16] at H
   have c16b0 : (t625 == 0) = true := beq_iff_eq.mpr c16
   have c16b1 : (t625 != 0) = false := bne_eq_false_iff_eq.mpr c16
   clear c16
   (first | rw [c16b0] | (simp only [i64_w, i32_w]; rw [c16b0]) | skip)
   replace H := tbe H
   obtain ⟨⟨t627, t628⟩, A17, H⟩ := H
   dsimp only at H
   replace H := tbe H
   obtain ⟨⟨t629, t630⟩, A18, H⟩ := H
   dsimp only at H
   replace H := tbe H
   obtain ⟨⟨t631, t632⟩, A19, H⟩ := H
   dsimp only at H
   replace H := tbe H
   obtain ⟨⟨t633, t634⟩, A20, H⟩ := H
   dsimp only at H
   by_cases c21 : t633 = 0
   ·rw [if_pos c21] at H
    have c21b0 : (t633 == 0) = true := beq_iff_eq.mpr c21
    have c21b1 : (t633 != 0) = false := bne_eq_false_iff_eq.mpr c21
    clear c21
    replace H := tbe H
    obtain ⟨⟨t635, t636⟩, A22, H⟩ := H
    dsimp only at H
    obtain ⟨y637, hy637⟩ : ∃ y_ : List Int, y_ = (([] : List Int)) := ⟨_, rfl⟩
    replace H : ((spec_l6Rd_pick.f k s0_0 t636 2).bind fun bt640 => (spec_l91Batch.j0 k s0_0 bt640.2 (t618 == 0) true t627 t629 t631 (([(⟨a1, t635, false, y637, true, (([bt640.1] : List Int))⟩ : S25)] : List (S25))))) = some (r1, r2, r3, r4, r5, r6, r7) := by first | (rw [hy637]; with_reducible exact H) | (have H2_ := (Option.bind_some _ _).symm.trans H; rw [hy637]; with_reducible exact H2_) | (have H2_ := (Option.bind_some _ _).symm.trans H; with_reducible exact H2_) | with_reducible exact H | (rw [hy637]; exact H) | exact H
    have Ny637 := Aside0.mk hy637
    clear hy637
    replace H := tbe H
    obtain ⟨⟨t640, t641⟩, A23, H⟩ := H
    dsimp only at H
    obtain ⟨y642, hy642⟩ : ∃ y_ : List Int, y_ = (([t640] : List Int)) := ⟨_, rfl⟩
    replace H : (spec_l91Batch.j0 k s0_0 t641 (t618 == 0) true t627 t629 t631 (([(⟨a1, t635, false, y637, true, y642⟩ : S25)] : List (S25)))) = some (r1, r2, r3, r4, r5, r6, r7) := by first | (rw [hy642]; with_reducible exact H) | (have H2_ := (Option.bind_some _ _).symm.trans H; rw [hy642]; with_reducible exact H2_) | (have H2_ := (Option.bind_some _ _).symm.trans H; with_reducible exact H2_) | with_reducible exact H | (rw [hy642]; exact H) | exact H
    have Ny642 := Aside0.mk hy642
    clear hy642
    obtain ⟨y645, hy645⟩ : ∃ y_ : List (S25), y_ = (([(⟨a1, t635, false, y637, true, y642⟩ : S25)] : List (S25))) := ⟨_, rfl⟩
    replace H : (spec_l91Batch.j0 k s0_0 t641 (t618 == 0) true t627 t629 t631 y645) = some (r1, r2, r3, r4, r5, r6, r7) := by first | (rw [hy645]; with_reducible exact H) | (have H2_ := (Option.bind_some _ _).symm.trans H; rw [hy645]; with_reducible exact H2_) | (have H2_ := (Option.bind_some _ _).symm.trans H; with_reducible exact H2_) | with_reducible exact H | (rw [hy645]; exact H) | exact H
    have Ny645 := Aside0.mk hy645
    clear hy645
    have H' := Aside0.mk H
    clear H
    go_wp2_with (first | ((with_reducible refine gate_callee (f := 51) rfl ?_); refine goesL_ (some 17) rfl rfl Tryd.func51 (by kernel_rfl) rfl #[.pointer (some ⟨g, 0, none⟩), .int .i64 3] rfl tq ?_; (with_reducible refine (spec_l6Rd_pick.calls k g s0_0 t626 3 t627 t628 w0 _ ?side1 ?side2 A17.out).mono ?_); (case side1 => exact zi101); (case side2 => exact zb); rintro e w24 ⟨rfl, hi, hb, hk⟩; refine ⟨_, rfl, ?_⟩; replace BK617 := tBk BK617 hk NB617_0; replace HO622 := tNk HO622 hk; replace BK624 := tBk BK624 hk NB624_0; replace HK := tKt HK hk; replace HB := Aside0.mk (hb); replace HI0 := Aside0.mk (hi); (try clear hb); (try clear hb2); (try clear hk); (try clear hi); have hnb25 := NB624_617.out; have hnc25 := NB617_624.out; have hnb26 := NB624_0.out; have hnc26 := NB0_624.out; obtain ⟨hcz27_0, hcz27_1, hcz27_2, hcz27_3, hcz27_4, hcz27_5, hfz27_0, hfz27_1, hfz27_2, hfz27_3, hfz27_4, hfz27_5⟩ := cells6 BK624.out) | ((with_reducible refine gate_callee (f := 51) rfl ?_); refine goesL_ (some 20) rfl rfl Tryd.func51 (by kernel_rfl) rfl #[.pointer (some ⟨g, 0, none⟩), .int .i64 3] rfl tq ?_; (with_reducible refine (spec_l6Rd_pick.calls k g s0_0 t628 3 t629 t630 w0 _ ?side1 ?side2 A18.out).mono ?_); (case side1 => exact zi101); (case side2 => exact zb); rintro e w28 ⟨rfl, hi, hb, hk⟩; refine ⟨_, rfl, ?_⟩; replace BK617 := tBk BK617 hk NB617_0; replace HO622 := tNk HO622 hk; replace BK624 := tBq (o' := .cells #[.bool (t618 == 0), .bool false, .int .i64 t627, .int .i64 0, .int .i64 0, .slice Ao10 t620.length co10] 84 (0, 0)) BK624 hk NB624_0; replace HK := tKt HK hk; replace HB := Aside0.mk (hb); replace HI0 := Aside0.mk (hi); (try clear hb); (try clear hb2); (try clear hk); (try clear hi); obtain ⟨hcz29_0, hcz29_1, hcz29_2, hcz29_3, hcz29_4, hcz29_5, hfz29_0, hfz29_1, hfz29_2, hfz29_3, hfz29_4, hfz29_5⟩ := cells6 BK624.out) | ((with_reducible refine gate_callee (f := 51) rfl ?_); refine goesL_ (some 23) rfl rfl Tryd.func51 (by kernel_rfl) rfl #[.pointer (some ⟨g, 0, none⟩), .int .i64 5] rfl tq ?_; (with_reducible refine (spec_l6Rd_pick.calls k g s0_0 t630 5 t631 t632 w0 _ ?side1 ?side2 A19.out).mono ?_); (case side1 => exact zi101); (case side2 => exact zb); rintro e w30 ⟨rfl, hi, hb, hk⟩; refine ⟨_, rfl, ?_⟩; replace BK617 := tBk BK617 hk NB617_0; replace HO622 := tNk HO622 hk; replace BK624 := tBq (o' := .cells #[.bool (t618 == 0), .bool false, .int .i64 t627, .int .i64 t629, .int .i64 0, .slice Ao10 t620.length co10] 84 (0, 0)) BK624 hk NB624_0; replace HK := tKt HK hk; replace HB := Aside0.mk (hb); replace HI0 := Aside0.mk (hi); (try clear hb); (try clear hb2); (try clear hk); (try clear hi); obtain ⟨hcz31_0, hcz31_1, hcz31_2, hcz31_3, hcz31_4, hcz31_5, hfz31_0, hfz31_1, hfz31_2, hfz31_3, hfz31_4, hfz31_5⟩ := cells6 BK624.out) | ((with_reducible refine gate_callee (f := 51) rfl ?_); refine goesL_ (some 26) rfl rfl Tryd.func51 (by kernel_rfl) rfl #[.pointer (some ⟨g, 0, none⟩), .int .i64 3] rfl tq ?_; (with_reducible refine (spec_l6Rd_pick.calls k g s0_0 t632 3 t633 t634 w0 _ ?side1 ?side2 A20.out).mono ?_); (case side1 => exact zi101); (case side2 => exact zb); rintro e w32 ⟨rfl, hi, hb, hk⟩; refine ⟨_, rfl, ?_⟩; replace BK617 := tBk BK617 hk NB617_0; replace HO622 := tNk HO622 hk; replace BK624 := tBq (o' := .cells #[.bool (t618 == 0), .bool false, .int .i64 t627, .int .i64 t629, .int .i64 t631, .slice Ao10 t620.length co10] 84 (0, 0)) BK624 hk NB624_0; replace HK := tKt HK hk; replace HB := Aside0.mk (hb); replace HI0 := Aside0.mk (hi); (try clear hb); (try clear hb2); (try clear hk); (try clear hi); obtain ⟨hcz33_0, hcz33_1, hcz33_2, hcz33_3, hcz33_4, hcz33_5, hfz33_0, hfz33_1, hfz33_2, hfz33_3, hfz33_4, hfz33_5⟩ := cells6 BK624.out) | ((with_reducible refine gate_callee (f := 51) rfl ?_); refine goesL_ (some 31) rfl rfl Tryd.func51 (by kernel_rfl) rfl #[.pointer (some ⟨g, 0, none⟩), .int .i64 200] rfl tq ?_; (with_reducible refine (spec_l6Rd_pick.calls k g s0_0 t634 200 t635 t636 w0 _ ?side1 ?side2 A22.out).mono ?_); (case side1 => exact zi101); (case side2 => exact zb); rintro e w34 ⟨rfl, hi, hb, hk⟩; refine ⟨_, rfl, ?_⟩; replace BK617 := tBk BK617 hk NB617_0; replace HO622 := tNk HO622 hk; replace BK624 := tBq (o' := .cells #[.bool (t618 == 0), .bool true, .int .i64 t627, .int .i64 t629, .int .i64 t631, .slice Ao10 t620.length co10] 84 (0, 0)) BK624 hk NB624_0; replace HK := tKt HK hk; replace HB := Aside0.mk (hb); replace HI0 := Aside0.mk (hi); (try clear hb); (try clear hb2); (try clear hk); (try clear hi)) | ((with_reducible refine gate_dst (N := 32) rfl ?_); refine Kd.R_lit (Kd.int .i64) _ 3 ?hg (N := 32) ?hd (xs := ([] : List Int)) (inner := []) (ok := fun _ => True) (okp := fun _ => True) ?hr ?hp (fun _ hk => hk) trivial (Below.refl _ _) (Nat.le_refl _) (by simp) ?_; (case hd => rfl); (case hg => rfl); (case hr => first | (go_simp; done) | (go_simp; rfl)); (case hp => exact (Reps.none _ _)); intro v638 w35 ho36 hb hg_ hnew_; clear hg_ hnew_; (first | rw [← Ny637.out] at ho36 | (simp only [Int.reduceToNat] at ho36; rw [← Ny637.out] at ho36)); replace HO622 := Aside0.mk (Kd.N_elder' (tN HO622.out) (Kd.R_base ho36) hb); have HO639 := Aside0.mk (Kd.R_lower (Kd.R_newM (M := fun k_ => (w.heap.size ≤ k_)) ho36 (keep_size (w := w) (g := g) (row := none) zk) (fun k_ h_ => h_)) (keep_size (w := w) (g := g) (row := none) zk)); replace HI0 := tIb101 HI0 hb; replace BK617 := tBb BK617 hb; replace BK624 := tBb BK624 hb; replace HK := tKb HK hb; replace HB := tBs HB hb; clear hb ho36) | ((with_reducible refine gate_callee (f := 51) rfl ?_); refine goesL_ (some 34) rfl rfl Tryd.func51 (by kernel_rfl) rfl #[.pointer (some ⟨g, 0, none⟩), .int .i64 2] rfl tq ?_; (with_reducible refine (spec_l6Rd_pick.calls k g s0_0 t636 2 t640 t641 w0 _ ?side1 ?side2 A23.out).mono ?_); (case side1 => exact zi101); (case side2 => exact zb); rintro e w37 ⟨rfl, hi, hb, hk⟩; refine ⟨_, rfl, ?_⟩; replace BK617 := tBk BK617 hk NB617_0; replace HO622 := tNk HO622 hk; replace BK624 := tBk BK624 hk NB624_0; replace HO639 := tRp101 HO639 HI0 hk; replace HK := tKt HK hk; replace HB := Aside0.mk (hb); replace HI0 := Aside0.mk (hi); (try clear hb); (try clear hb2); (try clear hk); (try clear hi)) | ((with_reducible refine gate_dst (N := 35) rfl ?_); refine Kd.R_lit (Kd.int .i64) _ 3 ?hg (N := 35) ?hd (xs := ([t640] : List Int)) (inner := [.int .i64 t640]) (ok := fun _ => True) (okp := fun _ => True) ?hr ?hp (fun _ hk => hk) trivial (Below.refl _ _) (Nat.le_refl _) (by simp) ?_; (case hd => rfl); (case hg => rfl); (case hr => first | (go_simp; done) | (go_simp; rfl)); (case hp => exact (Reps.one (show Kd.M (Kd.int .i64) _ _ _ t640 [.int .i64 t640] from rfl) (Reps.none _ _))); intro v643 w38 ho39 hb hg_ hnew_; clear hg_ hnew_; (first | rw [← Ny642.out] at ho39 | (simp only [Int.reduceToNat] at ho39; rw [← Ny642.out] at ho39)); replace HO622 := Aside0.mk (Kd.N_elder' (tN HO622.out) (Kd.R_base ho39) hb); have HO644 := Aside0.mk (Kd.R_lower (Kd.R_new' (Kd.R_newM (M := fun k_ => (w.heap.size ≤ k_)) ho39 (keep_size (w := w) (g := g) (row := none) zk) (fun k_ h_ => h_)) (Kd.R_lt (tR HO639.out))) (keep_size (w := w) (g := g) (row := none) zk)); replace HO639 := Aside0.mk (Kd.R_elder' (tR HO639.out) (Kd.R_base ho39) hb); replace HI0 := tIb101 HI0 hb; replace BK617 := tBb BK617 hb; replace BK624 := tBb BK624 hb; replace HK := tKb HK hb; replace HB := tBs HB hb; clear hb ho39; obtain ⟨Ao40, co40, eo40⟩ := Kd.R_slice HO644.out; subst eo40; obtain ⟨Ao41, co41, eo41⟩ := Kd.R_slice HO639.out; subst eo41) | ((with_reducible refine gate_dst (N := 37) rfl ?_); refine Kd.N_lit k25 _ 25 ?hg (N' := 37) ?hd (xs := ([(⟨a1, t635, false, y637, true, y642⟩ : S25)] : List (S25))) (inner := [.int .i64 a1, .int .i64 t635, .bool false, .slice Ao41 y637.length co41, .bool true, .slice Ao40 y642.length co40]) (ok := (fun k_ => (w.heap.size ≤ k_) ∧ some k_ ≠ (.slice Ao10 t620.length co10 : Value).ownBlock ∧ k_ ≠ gb617 ∧ k_ ≠ gb624 ∧ k_ ≠ g)) (okp := (fun k_ => (w.heap.size ≤ k_) ∧ some k_ ≠ (.slice Ao10 t620.length co10 : Value).ownBlock ∧ k_ ≠ gb617 ∧ k_ ≠ gb624 ∧ k_ ≠ g)) ?hr ?hp (fun _ hk => hk) ((show ∀ k_, w38.heap.size ≤ k_ → (fun k_ => (w.heap.size ≤ k_) ∧ some k_ ≠ (.slice Ao10 t620.length co10 : Value).ownBlock ∧ k_ ≠ gb617 ∧ k_ ≠ gb624 ∧ k_ ≠ g) k_ from fun k_ hk => ⟨(Nat.le_trans (keep_size (w := w) (g := g) (row := none) zk) hk), tfr HO622 k_ hk, tfB BK617 k_ hk, tfB BK624 k_ hk, IsS101.fresh zi101 k_ hk⟩) _ (Nat.le_refl _)) (Below.refl _ _) (Nat.le_refl _) (by simp) ?_; (case hd => rfl); (case hg => rfl); (case hr => first | (go_simp; done) | (go_simp; rfl)); (case hp => exact (Reps.c6 (show Kd.FK k25 _ _ (⟨a1, t635, false, y637, true, y642⟩ : S25) [.int .i64 a1, .int .i64 t635, .bool false, .slice Ao41 y637.length co41, .bool true, .slice Ao40 y642.length co40] from (k25_mkF _ _ (⟨a1, t635, false, y637, true, y642⟩ : S25) (Kd.R_reads' (Kd.R_mono (ok' := (fun k_ => (w.heap.size ≤ k_) ∧ some k_ ≠ (.slice Ao10 t620.length co10 : Value).ownBlock ∧ k_ ≠ gb617 ∧ k_ ≠ gb624 ∧ k_ ≠ g)) (IsS101.apart HI0.out (Kd.R_types (Kd.R_types (Kd.R_apart' (HO639.out) (Kd.N_typed HO622.out) (by decide)) BK617.out (by decide)) BK624.out (by decide)) (by decide)) (fun k_ hk => ⟨hk.1.1.1.1.1.1, ⟨hk.1.1.1.2, ⟨hk.1.1.2, ⟨hk.1.2, hk.2⟩⟩⟩⟩))).2.1 (Kd.R_F (Kd.R_mono (ok' := (fun k_ => (w.heap.size ≤ k_) ∧ some k_ ≠ (.slice Ao10 t620.length co10 : Value).ownBlock ∧ k_ ≠ gb617 ∧ k_ ≠ gb624 ∧ k_ ≠ g)) (IsS101.apart HI0.out (Kd.R_types (Kd.R_types (Kd.R_apart' (HO639.out) (Kd.N_typed HO622.out) (by decide)) BK617.out (by decide)) BK624.out (by decide)) (by decide)) (fun k_ hk => ⟨hk.1.1.1.1.1.1, ⟨hk.1.1.1.2, ⟨hk.1.1.2, ⟨hk.1.2, hk.2⟩⟩⟩⟩))) (Kd.R_reads' (Kd.R_mono (ok' := (fun k_ => (w.heap.size ≤ k_) ∧ some k_ ≠ (.slice Ao10 t620.length co10 : Value).ownBlock ∧ k_ ≠ gb617 ∧ k_ ≠ gb624 ∧ k_ ≠ g)) (IsS101.apart HI0.out (Kd.R_types (Kd.R_types (Kd.R_apart' (HO644.out) (Kd.N_typed HO622.out) (by decide)) BK617.out (by decide)) BK624.out (by decide)) (by decide)) (fun k_ hk => ⟨hk.1.1.1.1.1.1, ⟨hk.1.1.1.2, ⟨hk.1.1.2, ⟨hk.1.2, hk.2⟩⟩⟩⟩))).2.1 (Kd.R_F (Kd.R_mono (ok' := (fun k_ => (w.heap.size ≤ k_) ∧ some k_ ≠ (.slice Ao10 t620.length co10 : Value).ownBlock ∧ k_ ≠ gb617 ∧ k_ ≠ gb624 ∧ k_ ≠ g)) (IsS101.apart HI0.out (Kd.R_types (Kd.R_types (Kd.R_apart' (HO644.out) (Kd.N_typed HO622.out) (by decide)) BK617.out (by decide)) BK624.out (by decide)) (by decide)) (fun k_ hk => ⟨hk.1.1.1.1.1.1, ⟨hk.1.1.1.2, ⟨hk.1.1.2, ⟨hk.1.2, hk.2⟩⟩⟩⟩))))) (Reps.none _ _))); intro v646 w42 ho43 hb hg_ hnew_; clear hg_ hnew_; (first | rw [← Ny645.out] at ho43 | (simp only [Int.reduceToNat] at ho43; rw [← Ny645.out] at ho43)); replace HO622 := tNe HO622 ho43 hb; have HO647 := Aside0.mk (Kd.N_lower ho43 (keep_size (w := w) (g := g) (row := none) zk)); replace HI0 := tIb101 HI0 hb; replace BK617 := tBb BK617 hb; replace BK624 := tBb BK624 hb; replace HK := tKb HK hb; replace HB := tBs HB hb; clear HO639 HO644; clear hb ho43; obtain ⟨Ao44, co44, eo44⟩ := Kd.N_slice HO647.out; subst eo44; obtain ⟨hcz45_0, hcz45_1, hcz45_2, hcz45_3, hcz45_4, hcz45_5, hfz45_0, hfz45_1, hfz45_2, hfz45_3, hfz45_4, hfz45_5⟩ := cells6 BK624.out))
    go_meet
    case rel => exact ⟨_, (t641), (true), (t627), (t629), (t631), (y645), (.slice Ao44 y645.length co44), H', ⟨by first | omega | exact Nat.le_refl _⟩, ⟨tNm HO647.out⟩, ⟨tH BK617.out⟩, ⟨tP BK624.out⟩, ⟨zi101⟩, ⟨zk⟩, ⟨zb⟩⟩
   ·rw [if_neg c21] at H
    have c21b0 : (t633 == 0) = false := beq_eq_false_iff_ne.mpr c21
    have c21b1 : (t633 != 0) = true := bne_iff_ne.mpr c21
    have H' := Aside0.mk H
    clear H
    go_wp2_with (first | ((with_reducible refine gate_callee (f := 51) rfl ?_); refine goesL_ (some 17) rfl rfl Tryd.func51 (by kernel_rfl) rfl #[.pointer (some ⟨g, 0, none⟩), .int .i64 3] rfl tq ?_; (with_reducible refine (spec_l6Rd_pick.calls k g s0_0 t626 3 t627 t628 w0 _ ?side1 ?side2 A17.out).mono ?_); (case side1 => exact zi101); (case side2 => exact zb); rintro e w46 ⟨rfl, hi, hb, hk⟩; refine ⟨_, rfl, ?_⟩; replace BK617 := tBk BK617 hk NB617_0; replace HO622 := tNk HO622 hk; replace BK624 := tBk BK624 hk NB624_0; replace HK := tKt HK hk; replace HB := Aside0.mk (hb); replace HI0 := Aside0.mk (hi); (try clear hb); (try clear hb2); (try clear hk); (try clear hi); have hnb47 := NB624_617.out; have hnc47 := NB617_624.out; have hnb48 := NB624_0.out; have hnc48 := NB0_624.out; obtain ⟨hcz49_0, hcz49_1, hcz49_2, hcz49_3, hcz49_4, hcz49_5, hfz49_0, hfz49_1, hfz49_2, hfz49_3, hfz49_4, hfz49_5⟩ := cells6 BK624.out) | ((with_reducible refine gate_callee (f := 51) rfl ?_); refine goesL_ (some 20) rfl rfl Tryd.func51 (by kernel_rfl) rfl #[.pointer (some ⟨g, 0, none⟩), .int .i64 3] rfl tq ?_; (with_reducible refine (spec_l6Rd_pick.calls k g s0_0 t628 3 t629 t630 w0 _ ?side1 ?side2 A18.out).mono ?_); (case side1 => exact zi101); (case side2 => exact zb); rintro e w50 ⟨rfl, hi, hb, hk⟩; refine ⟨_, rfl, ?_⟩; replace BK617 := tBk BK617 hk NB617_0; replace HO622 := tNk HO622 hk; replace BK624 := tBq (o' := .cells #[.bool (t618 == 0), .bool false, .int .i64 t627, .int .i64 0, .int .i64 0, .slice Ao10 t620.length co10] 84 (0, 0)) BK624 hk NB624_0; replace HK := tKt HK hk; replace HB := Aside0.mk (hb); replace HI0 := Aside0.mk (hi); (try clear hb); (try clear hb2); (try clear hk); (try clear hi); obtain ⟨hcz51_0, hcz51_1, hcz51_2, hcz51_3, hcz51_4, hcz51_5, hfz51_0, hfz51_1, hfz51_2, hfz51_3, hfz51_4, hfz51_5⟩ := cells6 BK624.out) | ((with_reducible refine gate_callee (f := 51) rfl ?_); refine goesL_ (some 23) rfl rfl Tryd.func51 (by kernel_rfl) rfl #[.pointer (some ⟨g, 0, none⟩), .int .i64 5] rfl tq ?_; (with_reducible refine (spec_l6Rd_pick.calls k g s0_0 t630 5 t631 t632 w0 _ ?side1 ?side2 A19.out).mono ?_); (case side1 => exact zi101); (case side2 => exact zb); rintro e w52 ⟨rfl, hi, hb, hk⟩; refine ⟨_, rfl, ?_⟩; replace BK617 := tBk BK617 hk NB617_0; replace HO622 := tNk HO622 hk; replace BK624 := tBq (o' := .cells #[.bool (t618 == 0), .bool false, .int .i64 t627, .int .i64 t629, .int .i64 0, .slice Ao10 t620.length co10] 84 (0, 0)) BK624 hk NB624_0; replace HK := tKt HK hk; replace HB := Aside0.mk (hb); replace HI0 := Aside0.mk (hi); (try clear hb); (try clear hb2); (try clear hk); (try clear hi); obtain ⟨hcz53_0, hcz53_1, hcz53_2, hcz53_3, hcz53_4, hcz53_5, hfz53_0, hfz53_1, hfz53_2, hfz53_3, hfz53_4, hfz53_5⟩ := cells6 BK624.out) | ((with_reducible refine gate_callee (f := 51) rfl ?_); refine goesL_ (some 26) rfl rfl Tryd.func51 (by kernel_rfl) rfl #[.pointer (some ⟨g, 0, none⟩), .int .i64 3] rfl tq ?_; (with_reducible refine (spec_l6Rd_pick.calls k g s0_0 t632 3 t633 t634 w0 _ ?side1 ?side2 A20.out).mono ?_); (case side1 => exact zi101); (case side2 => exact zb); rintro e w54 ⟨rfl, hi, hb, hk⟩; refine ⟨_, rfl, ?_⟩; replace BK617 := tBk BK617 hk NB617_0; replace HO622 := tNk HO622 hk; replace BK624 := tBq (o' := .cells #[.bool (t618 == 0), .bool false, .int .i64 t627, .int .i64 t629, .int .i64 t631, .slice Ao10 t620.length co10] 84 (0, 0)) BK624 hk NB624_0; replace HK := tKt HK hk; replace HB := Aside0.mk (hb); replace HI0 := Aside0.mk (hi); (try clear hb); (try clear hb2); (try clear hk); (try clear hi)))
    go_meet
    case rel => exact ⟨_, (t634), (false), (t627), (t629), (t631), (t620), (.slice Ao10 t620.length co10), H', ⟨by first | omega | exact Nat.le_refl _⟩, ⟨tNm HO622.out⟩, ⟨tH BK617.out⟩, ⟨tH BK624.out⟩, ⟨zi101⟩, ⟨zk⟩, ⟨zb⟩⟩
  ·rw [if_neg c16] at H
   have c16b0 : (t625 == 0) = false := beq_eq_false_iff_ne.mpr c16
   have c16b1 : (t625 != 0) = true := bne_iff_ne.mpr c16
   (first | rw [c16b0] | (simp only [i64_w, i32_w]; rw [c16b0]) | skip)
   have H' := Aside0.mk H
   clear H
   go_wp2
   go_meet
   case rel => exact ⟨_, (t626), (false), (255), (0), (0), (t620), (.slice Ao10 t620.length co10), H', ⟨by first | omega | exact Nat.le_refl _⟩, ⟨tNm HO622.out⟩, ⟨tH BK617.out⟩, ⟨tH BK624.out⟩, ⟨zi101⟩, ⟨zk⟩, ⟨zb⟩⟩
 case rest =>
  clear HC6
  try clear hcz14_0; try clear hcz14_1; try clear hcz14_2; try clear hcz14_3; try clear hcz14_4; try clear hcz14_5; try clear hfz14_0; try clear hfz14_1; try clear hfz14_2; try clear hfz14_3; try clear hfz14_4; try clear hfz14_5
  obtain ⟨kq, x1001_5, x625001_5, x625002_5, x625003_5, x625004_5, x625005_5, u625005, HA, HJ5, HO_625005, BK617, BK624, HI0, HK, HB⟩ := hcut
  cases kq with
  | zero => exact absurd HA.out (by simp [spec_l91Batch.j0])
  | succ kj5 =>
   have H := HA.out
   clear HA
   simp only [spec_l91Batch.j0] at H
   replace H := tbe H
   obtain ⟨⟨t648, t649⟩, A55, H⟩ := H
   dsimp only at H
   by_cases c56 : t648 = 0
   ·rw [if_pos c56] at H
    have c56b0 : (t648 == 0) = true := beq_iff_eq.mpr c56
    have c56b1 : (t648 != 0) = false := bne_eq_false_iff_eq.mpr c56
    clear c56
    obtain ⟨y650, hy650⟩ : ∃ y_ : List Int, y_ = (([(-1), 1, 100] : List Int)) := ⟨_, rfl⟩
    replace H : ((spec_l6Rd_pick.f kj5 s0_0 t649 3).bind fun bt653 => (if 0 ≤ bt653.1 then (if bt653.1 < (y650.length : Int) then (some ((t618 == 0), x625001_5, x625002_5, rd y650 bt653.1, x625004_5, x625005_5, bt653.2)) else (none)) else (none))) = some (r1, r2, r3, r4, r5, r6, r7) := by first | (rw [hy650]; with_reducible exact H) | (have H2_ := (Option.bind_some _ _).symm.trans H; rw [hy650]; with_reducible exact H2_) | (have H2_ := (Option.bind_some _ _).symm.trans H; with_reducible exact H2_) | with_reducible exact H | (rw [hy650]; exact H) | exact H
    have Ny650 := Aside0.mk hy650
    clear hy650
    replace H := tbe H
    obtain ⟨⟨t653, t654⟩, A57, H⟩ := H
    dsimp only at H
    by_cases c58 : 0 ≤ t653
    ·rw [if_pos c58] at H
     have c58b0 : decide (0 ≤ t653) = true := decide_eq_true c58
     clear c58
     by_cases c59 : t653 < (y650.length : Int)
     ·rw [if_pos c59] at H
      have c59b0 : decide (t653 < (y650.length : Int)) = true := decide_eq_true c59
      clear c59
      simp only [Option.some.injEq, Prod.mk.injEq] at H
      obtain ⟨rfl, rfl, rfl, rfl, rfl, rfl, rfl⟩ := H
      go_wp2_with (first | ((with_reducible refine gate_callee (f := 51) rfl ?_); refine goesL_ (some 40) rfl rfl Tryd.func51 (by kernel_rfl) rfl #[.pointer (some ⟨g, 0, none⟩), .int .i64 40] rfl tq ?_; (with_reducible refine (spec_l6Rd_pick.calls kj5 g s0_0 x1001_5 40 t648 t649 w0 _ ?side1 ?side2 A55.out).mono ?_); (case side1 => exact zi101); (case side2 => exact zb); rintro e w60 ⟨rfl, hi, hb, hk⟩; refine ⟨_, rfl, ?_⟩; replace HO_625005 := tNk HO_625005 hk; replace BK617 := tBk BK617 hk NB617_0; replace BK624 := tBk BK624 hk NB624_0; replace HK := tKt HK hk; replace HB := Aside0.mk (hb); replace HI0 := Aside0.mk (hi); (try clear hb); (try clear hb2); (try clear hk); (try clear hi)) | ((with_reducible refine gate_dst (N := 43) rfl ?_); refine Kd.R_lit (Kd.int .i64) _ 3 ?hg (N := 43) ?hd (xs := ([(-1), 1, 100] : List Int)) (inner := [.int .i64 (-1), .int .i64 1, .int .i64 100]) (ok := fun _ => True) (okp := fun _ => True) ?hr ?hp (fun _ hk => hk) trivial (Below.refl _ _) (Nat.le_refl _) (by simp) ?_; (case hd => rfl); (case hg => rfl); (case hr => first | (go_simp; done) | (go_simp; rfl)); (case hp => exact (Reps.one (show Kd.M (Kd.int .i64) _ _ _ (-1) [.int .i64 (-1)] from rfl) (Reps.one (show Kd.M (Kd.int .i64) _ _ _ 1 [.int .i64 1] from rfl) (Reps.one (show Kd.M (Kd.int .i64) _ _ _ 100 [.int .i64 100] from rfl) (Reps.none _ _))))); intro v651 w61 ho62 hb hg_ hnew_; clear hg_ hnew_; (first | rw [← Ny650.out] at ho62 | (simp only [Int.reduceToNat] at ho62; rw [← Ny650.out] at ho62)); replace HO_625005 := Aside0.mk (Kd.N_elder' (tN HO_625005.out) (Kd.R_base ho62) hb); have HO652 := Aside0.mk (Kd.R_lower (Kd.R_newM (M := fun k_ => (w.heap.size ≤ k_)) ho62 (keep_size (w := w) (g := g) (row := none) zk) (fun k_ h_ => h_)) (keep_size (w := w) (g := g) (row := none) zk)); replace BK617 := tBb BK617 hb; replace BK624 := tBb BK624 hb; replace HI0 := tIb101 HI0 hb; replace HK := tKb HK hb; replace HB := tBs HB hb; clear hb ho62) | ((with_reducible refine gate_callee (f := 51) rfl ?_); refine goesL_ (some 45) rfl rfl Tryd.func51 (by kernel_rfl) rfl #[.pointer (some ⟨g, 0, none⟩), .int .i64 3] rfl tq ?_; (with_reducible refine (spec_l6Rd_pick.calls kj5 g s0_0 t649 3 t653 t654 w0 _ ?side1 ?side2 A57.out).mono ?_); (case side1 => exact zi101); (case side2 => exact zb); rintro e w63 ⟨rfl, hi, hb, hk⟩; refine ⟨_, rfl, ?_⟩; replace HO_625005 := tNk HO_625005 hk; replace BK617 := tBk BK617 hk NB617_0; replace BK624 := tBk BK624 hk NB624_0; replace HO652 := tRp101 HO652 HI0 hk; replace HK := tKt HK hk; replace HB := Aside0.mk (hb); replace HI0 := Aside0.mk (hi); (try clear hb); (try clear hb2); (try clear hk); (try clear hi); obtain ⟨Ao64, co64, eo64⟩ := Kd.R_slice HO652.out; subst eo64; have p655 : 0 ≤ (t653 : Int) := td; have q655 : t653 < (y650.length : Int) := td; obtain ⟨ad655, e655, hx655_0⟩ := Kd.at_int (Kd.R_reads' HO652.out).2.2 t653 p655 q655; cases e655; replace p655 := eq_true p655; replace q655 := eq_true q655; have hnb65 := NB624_617.out; have hnc65 := NB617_624.out; have hnb66 := NB624_0.out; have hnc66 := NB0_624.out; obtain ⟨hcz67_0, hcz67_1, hcz67_2, hcz67_3, hcz67_4, hcz67_5, hfz67_0, hfz67_1, hfz67_2, hfz67_3, hfz67_4, hfz67_5⟩ := cells6 BK624.out; have hnb68 := NB617_0.out; have hnc68 := NB0_617.out; obtain ⟨hcz69_0, hcz69_1, hcz69_2, hcz69_3, hcz69_4, hcz69_5, hfz69_0, hfz69_1, hfz69_2, hfz69_3, hfz69_4, hfz69_5⟩ := cells6 BK617.out; obtain ⟨Ao70, co70, eo70⟩ := Kd.N_slice HO_625005.out; subst eo70))
      refine bodyPost_ret (results_cell_row rfl _ _ gb617 84 #[.bool (t618 == 0), .bool x625001_5, .int .i64 x625002_5, .int .i64 (rd y650 t653), .int .i64 x625004_5, .slice Ao70 x625005_5.length co70] (0, 0) _ rfl (tP BK617.out) Tryd.underlying84 rfl (by kernel_rfl)) rfl ?_
      exact ⟨_, by first | rfl | (simp [errW_none, errW_some] <;> rfl) | (simp [*, errW_none, errW_some] <;> rfl), by (with_reducible repeat (first | apply Kd.N_alloc | apply Kd.N_drewN | apply Kd.N_drew)); exact Kd.N_mono (Kd.N_far (p := ⟨gb617, 5, none⟩) (Kd.N_far (p := ⟨gb617, 4, none⟩) (Kd.N_far (p := ⟨gb617, 3, none⟩) (Kd.N_far (p := ⟨gb617, 2, none⟩) (Kd.N_far (p := ⟨gb617, 1, none⟩) (Kd.N_far (p := ⟨gb617, 0, none⟩) (Kd.N_far (p := ⟨gb624, 3, none⟩) (Kd.N_mono (Kd.N_mono HO_625005.out (fun k_ hk => (⟨hk, hk.1.2.2.1⟩ : _ ∧ k_ ≠ gb624))) (fun k_ hk => (⟨hk, hk.1.1.2.1⟩ : _ ∧ k_ ≠ gb617))) (fun _ hk => hk.1.2) (.int .i64 (rd y650 t653))) (fun _ hk => hk.2) (.bool (t618 == 0))) (fun _ hk => hk.2) (.bool x625001_5)) (fun _ hk => hk.2) (.int .i64 x625002_5)) (fun _ hk => hk.2) (.int .i64 (rd y650 t653))) (fun _ hk => hk.2) (.int .i64 x625004_5)) (fun _ hk => hk.2) (.slice Ao70 x625005_5.length co70)) (fun _ hk => hk.1.1.1.1), zi101, zb, zk⟩
     ·rw [if_neg c59] at H
      exact absurd H (by simp)
    ·rw [if_neg c58] at H
     exact absurd H (by simp)
   ·rw [if_neg c56] at H
    have c56b0 : (t648 == 0) = false := beq_eq_false_iff_ne.mpr c56
    have c56b1 : (t648 != 0) = true := bne_iff_ne.mpr c56
    by_cases c71 : t648 = 1
    ·rw [if_pos c71] at H
     have c71b0 : (t648 == 1) = true := beq_iff_eq.mpr c71
     have c71b1 : (t648 != 1) = false := bne_eq_false_iff_eq.mpr c71
     clear c71
     by_cases c72 : 0 < (x625005_5.length : Int)
     ·rw [if_pos c72] at H
      have c72b0 : decide (0 < (x625005_5.length : Int)) = true := decide_eq_true c72
      have c72b1 : decide (0 < x625005_5.length) = true := decide_eq_true (by omega)
      clear c72
      by_cases c73 : x625005_5.length < 1759218604441
      ·rw [if_pos c73] at H
       have LMc73 := Aside0.mk c73
       clear c73
       obtain ⟨y657, hy657⟩ : ∃ y_ : List (S25), y_ = (x625005_5 ++ [(⟨(rd_T25 x625005_5 0).f0, (rd_T25 x625005_5 0).f1, (rd_T25 x625005_5 0).f2, (rd_T25 x625005_5 0).f3, (rd_T25 x625005_5 0).f4, (rd_T25 x625005_5 0).f5⟩ : S25)]) := ⟨_, rfl⟩
       replace H : (some ((t618 == 0), x625001_5, x625002_5, x625003_5, x625004_5, y657, t649)) = some (r1, r2, r3, r4, r5, r6, r7) := by first | (rw [hy657]; with_reducible exact H) | (have H2_ := (Option.bind_some _ _).symm.trans H; rw [hy657]; with_reducible exact H2_) | (have H2_ := (Option.bind_some _ _).symm.trans H; with_reducible exact H2_) | with_reducible exact H | (rw [hy657]; exact H) | exact H
       have Ny657 := Aside0.mk hy657
       clear hy657
       simp only [Option.some.injEq, Prod.mk.injEq] at H
       obtain ⟨rfl, rfl, rfl, rfl, rfl, rfl, rfl⟩ := H
       try go_wp2_with (first | ((with_reducible refine gate_callee (f := 51) rfl ?_); refine goesL_ (some 40) rfl rfl Tryd.func51 (by kernel_rfl) rfl #[.pointer (some ⟨g, 0, none⟩), .int .i64 40] rfl tq ?_; (with_reducible refine (spec_l6Rd_pick.calls kj5 g s0_0 x1001_5 40 t648 t649 w0 _ ?side1 ?side2 A55.out).mono ?_); (case side1 => exact zi101); (case side2 => exact zb); rintro e w74 ⟨rfl, hi, hb, hk⟩; refine ⟨_, rfl, ?_⟩; replace HO_625005 := tNk HO_625005 hk; replace BK617 := tBk BK617 hk NB617_0; replace BK624 := tBk BK624 hk NB624_0; replace HK := tKt HK hk; replace HB := Aside0.mk (hb); replace HI0 := Aside0.mk (hi); (try clear hb); (try clear hb2); (try clear hk); (try clear hi)))
       replace HO_625005 := Aside0.mk (Kd.N_drew HO_625005.out)
       replace BK617 := Aside0.mk (blk_drew BK617.out)
       replace BK624 := Aside0.mk (blk_drew BK624.out)
       replace HI0 := Aside0.mk (IsS101.drew HI0.out)
       replace HK := Aside0.mk (keep_drew HK.out)
       replace HB := Aside0.mk (below_drew1 HB.out)
       obtain ⟨Ao76, co76, eo76⟩ := Kd.N_slice HO_625005.out
       (first | subst eo76 | (injection eo76 with f1_ f2_ f3_; have f4_ := f1_.symm; have f5_ := f3_.symm; clear f1_ f2_ f3_; subst f4_; subst f5_))
       have p656 : 0 ≤ (0 : Int) := (by omega)
       have q656 : 0 < (x625005_5.length : Int) := td
       obtain ⟨ad656, A656_3, c656_3, A656_5, c656_5, e656, hx656_0, hx656_1, hx656_2, hx656_3, hx656_4, hx656_5, hl656_3, hi656_3, hl656_5, hi656_5⟩ := at_T25 (Kd.N_reads' HO_625005.out).2.2 0 p656 q656
       cases e656
       obtain ⟨ce656, hce656, hMe656, hcc656⟩ := Kd.N_get HO_625005.out z25 0 p656 (by first | exact q656 | exact td | (have e_ := (Kd.N_reads' HO_625005.out).1; omega))
       obtain ⟨ua656_3, uc656_3, ua656_5, uc656_5, rfl, ul656_3, ge656_3, ul656_5, ge656_5⟩ := k25_openF hMe656
       have hv656_3 := hcc656 3 _ rfl
       rw [add_field _ _ 3 (by omega)] at hv656_3
       replace hv656_3 := Option.some.inj (hv656_3.symm.trans hx656_3)
       injection hv656_3 with hva_ hvn_ hvc_
       rw [hva_] at ge656_3
       rw [hvc_] at ul656_3
       have HL656_3 := Aside0.mk (show Kd.V (Kd.int .i64) 3 _ w.heap.size _ _ ((rd_T25 x625005_5 0).f3) from Kd.V_mk ul656_3 ge656_3)
       clear hva_ hvn_ hvc_ ge656_3 ul656_3
       have hv656_5 := hcc656 5 _ rfl
       rw [add_field _ _ 5 (by omega)] at hv656_5
       replace hv656_5 := Option.some.inj (hv656_5.symm.trans hx656_5)
       injection hv656_5 with hva_ hvn_ hvc_
       rw [hva_] at ge656_5
       rw [hvc_] at ul656_5
       have HL656_5 := Aside0.mk (show Kd.V (Kd.int .i64) 3 _ w.heap.size _ _ ((rd_T25 x625005_5 0).f5) from Kd.V_mk ul656_5 ge656_5)
       clear hva_ hvn_ hvc_ ge656_5 ul656_5
       clear hcc656 hce656
       have qi656 : (0 < x625005_5.length) = True := eq_true (by omega)
       (try rw [show ((0 : Int)).toNat = 0 from rfl] at hx656_0)
       (try rw [show 0 * 6 = 0 from rfl] at hx656_0)
       (try rw [Addr.add_zero'] at hx656_0)
       (try rw [show ((0 : Int)).toNat = 0 from rfl] at hx656_1)
       (try rw [show 0 * 6 = 0 from rfl] at hx656_1)
       (try rw [Addr.add_zero'] at hx656_1)
       (try rw [show ((0 : Int)).toNat = 0 from rfl] at hx656_2)
       (try rw [show 0 * 6 = 0 from rfl] at hx656_2)
       (try rw [Addr.add_zero'] at hx656_2)
       (try rw [show ((0 : Int)).toNat = 0 from rfl] at hx656_3)
       (try rw [show 0 * 6 = 0 from rfl] at hx656_3)
       (try rw [Addr.add_zero'] at hx656_3)
       (try rw [show ((0 : Int)).toNat = 0 from rfl] at hx656_4)
       (try rw [show 0 * 6 = 0 from rfl] at hx656_4)
       (try rw [Addr.add_zero'] at hx656_4)
       (try rw [show ((0 : Int)).toNat = 0 from rfl] at hx656_5)
       (try rw [show 0 * 6 = 0 from rfl] at hx656_5)
       (try rw [Addr.add_zero'] at hx656_5)
       have HR656_3 := Aside0.mk hi656_3
       have HC656_3 := Aside0.mk hl656_3
       clear hi656_3 hl656_3
       have HR656_5 := Aside0.mk hi656_5
       have HC656_5 := Aside0.mk hl656_5
       clear hi656_5 hl656_5
       replace p656 := eq_true p656
       replace q656 := eq_true q656
       refine start_ (n := 10) (S := fun w' => w'.cell? ⟨gb624, 0, none⟩ = some (.bool (t618 == 0)) ∧ w'.cell? ⟨gb624, 1, none⟩ = some (.bool x625001_5) ∧ w'.cell? ⟨gb624, 2, none⟩ = some (.int .i64 x625002_5) ∧ w'.cell? ⟨gb624, 3, none⟩ = some (.int .i64 x625003_5) ∧ w'.cell? ⟨gb624, 4, none⟩ = some (.int .i64 x625004_5) ∧ w'.cell? ⟨gb624, 5, none⟩ = some (.slice (some ad656) x625005_5.length co76) ∧ w'.cell? ad656 = some (.int .i64 ((rd_T25 x625005_5 0).f0)) ∧ w'.cell? ⟨ad656.block, ad656.off + 1, none⟩ = some (.int .i64 ((rd_T25 x625005_5 0).f1)) ∧ w'.cell? ⟨ad656.block, ad656.off + 2, none⟩ = some (.bool ((rd_T25 x625005_5 0).f2)) ∧ w'.cell? ⟨ad656.block, ad656.off + 3, none⟩ = some (.slice A656_3 ((rd_T25 x625005_5 0).f3).length c656_3) ∧ w'.cell? ⟨ad656.block, ad656.off + 4, none⟩ = some (.bool ((rd_T25 x625005_5 0).f4)) ∧ w'.cell? ⟨ad656.block, ad656.off + 5, none⟩ = some (.slice A656_5 ((rd_T25 x625005_5 0).f5).length c656_5)) (ds := [7, 9]) #[false, false, false, false, false, false, false, false, false, false] (by kernel_rfl) rfl rfl ⟨(blk_cell BK624.out 0).trans rfl, (blk_cell BK624.out 1).trans rfl, (blk_cell BK624.out 2).trans rfl, (blk_cell BK624.out 3).trans rfl, (blk_cell BK624.out 4).trans rfl, (blk_cell BK624.out 5).trans rfl, hx656_0, hx656_1, hx656_2, hx656_3, hx656_4, hx656_5⟩ (fun hHeld => ?_); refine with_tabW spec_l91Batch.tab13 spec_l91Batch.bits13 (fun HT_ HW_ => ?_)
       generalize w74.drew = w75 at HO_625005 BK617 BK624 HI0 HK HB HL656_3 HL656_5 HR656_3 HR656_5 hx656_0 hx656_1 hx656_2 hx656_3 hx656_4 hx656_5 hHeld ⊢
       refine tpu 0 (some 51) #[true, false, false, false, false, false, false, false, false, false] ?_
       refine tpu 2 (some 53) #[true, false, true, false, false, false, false, false, false, false] ?_
       refine tta 1 (some 52) #[true, true, true, false, false, false, false, false, false, false] hHeld ?_ (hy := by rintro w' ⟨s0, s1, s2, s3, s4, s5, s6, s7, s8, s9, s10, s11⟩; go_simp; with_reducible rfl)
       refine tta 3 (some 54) #[true, true, true, true, false, false, false, false, false, false] hHeld ?_ (hy := by rintro w' ⟨s0, s1, s2, s3, s4, s5, s6, s7, s8, s9, s10, s11⟩; go_simp; with_reducible rfl)
       refine tpu 4 (some 55) #[true, true, true, true, true, false, false, false, false, false] ?_
       refine tta 5 (some 56) #[true, true, true, true, true, true, false, false, false, false] hHeld ?_ (hy := by rintro w' ⟨s0, s1, s2, s3, s4, s5, s6, s7, s8, s9, s10, s11⟩; go_simp; with_reducible rfl)
       refine one_ (i := 6) (N := some 57) #[true, true, true, true, true, true, true, false, false, false] rfl rfl (one_of HT_.out (by kernel_rfl)) (by decide) (fun K hK => ?_)
       refine value_ (w1 := ?_) (v := ?_) (by rfl) rfl ?_ ?_
       rotate_left 2
       ·go_simp
        constructor
        ·rfl
        ·rfl
       refine hK.out _ _ ⟨(blk_cell (blk_alloc BK624.out _) 0).trans rfl, (blk_cell (blk_alloc BK624.out _) 1).trans rfl, (blk_cell (blk_alloc BK624.out _) 2).trans rfl, (blk_cell (blk_alloc BK624.out _) 3).trans rfl, (blk_cell (blk_alloc BK624.out _) 4).trans rfl, (blk_cell (blk_alloc BK624.out _) 5).trans rfl, (World.cell?_alloc_lt _ _ _ (World.block_lt_of_cell? _ _ (hHeld.2.2.2.2.2.2.1))).trans (hHeld.2.2.2.2.2.2.1), (World.cell?_alloc_lt _ _ _ (World.block_lt_of_cell? _ _ (hHeld.2.2.2.2.2.2.2.1))).trans (hHeld.2.2.2.2.2.2.2.1), (World.cell?_alloc_lt _ _ _ (World.block_lt_of_cell? _ _ (hHeld.2.2.2.2.2.2.2.2.1))).trans (hHeld.2.2.2.2.2.2.2.2.1), (World.cell?_alloc_lt _ _ _ (World.block_lt_of_cell? _ _ (hHeld.2.2.2.2.2.2.2.2.2.1))).trans (hHeld.2.2.2.2.2.2.2.2.2.1), (World.cell?_alloc_lt _ _ _ (World.block_lt_of_cell? _ _ (hHeld.2.2.2.2.2.2.2.2.2.2.1))).trans (hHeld.2.2.2.2.2.2.2.2.2.2.1), (World.cell?_alloc_lt _ _ _ (World.block_lt_of_cell? _ _ (hHeld.2.2.2.2.2.2.2.2.2.2.2))).trans (hHeld.2.2.2.2.2.2.2.2.2.2.2)⟩ (fun hHeld => ?_)
       clear hK K
       refine tnm (some 57) ?_
       refine last_ (i := 7) (N := some 58) #[true, true, true, true, true, true, true, true, false, false] rfl rfl (one_of HT_.out (by kernel_rfl)) (by decide) (fun K hK => ?_)
       refine Kd.N_append_step k25 w.heap.size (by rfl) (.tmp 52) (.tmp 57) 44 25 (.agg #[(.int .i64 0), (.int .i64 0), (.bool false), (.slice none 0 0), (.bool false), (.slice none 0 0)]) 80 rfl Tryd.underlying44 info25 rfl (by decide) (by omega) (.slice (some ad656) x625005_5.length co76) x625005_5 (⟨(rd_T25 x625005_5 0).f0, (rd_T25 x625005_5 0).f1, (rd_T25 x625005_5 0).f2, (rd_T25 x625005_5 0).f3, (rd_T25 x625005_5 0).f4, (rd_T25 x625005_5 0).f5⟩ : S25) [.int .i64 ((rd_T25 x625005_5 0).f0), .int .i64 ((rd_T25 x625005_5 0).f1), .bool ((rd_T25 x625005_5 0).f2), .slice A656_3 ((rd_T25 x625005_5 0).f3).length c656_3, .bool ((rd_T25 x625005_5 0).f4), .slice A656_5 ((rd_T25 x625005_5 0).f5).length c656_5] (fun k_ => (w.heap.size ≤ k_) ∧ k_ ≠ gb617 ∧ k_ ≠ gb624 ∧ k_ ≠ g) (fun k_ => ((fun k_ => (w.heap.size ≤ k_) ∧ k_ ≠ gb617 ∧ k_ ≠ gb624 ∧ k_ ≠ g)) k_ ∧ some k_ ≠ (.slice (some ad656) x625005_5.length co76 : Value).ownBlock) rfl rfl ?aP (fun _ hk => hk) ?aF ?aO (Below.refl _ _) ?aS ?aL ?_
       (case aP => exact (k25_mkF _ _ (⟨(rd_T25 x625005_5 0).f0, (rd_T25 x625005_5 0).f1, (rd_T25 x625005_5 0).f2, (rd_T25 x625005_5 0).f3, (rd_T25 x625005_5 0).f4, (rd_T25 x625005_5 0).f5⟩ : S25) (Kd.V_reads' (Kd.V_mono (ok' := (fun k_ => ((fun k_ => (w.heap.size ≤ k_) ∧ k_ ≠ gb617 ∧ k_ ≠ gb624 ∧ k_ ≠ g)) k_ ∧ some k_ ≠ (.slice (some ad656) x625005_5.length co76 : Value).ownBlock)) (HL656_3.out) (fun k_ hk => ⟨⟨hk.1.1, ⟨hk.1.2.1, ⟨hk.1.2.2.1, hk.1.2.2.2⟩⟩⟩, hk.2⟩))).2.1 (Kd.V_F (Kd.V_mono (ok' := (fun k_ => ((fun k_ => (w.heap.size ≤ k_) ∧ k_ ≠ gb617 ∧ k_ ≠ gb624 ∧ k_ ≠ g)) k_ ∧ some k_ ≠ (.slice (some ad656) x625005_5.length co76 : Value).ownBlock)) (HL656_3.out) (fun k_ hk => ⟨⟨hk.1.1, ⟨hk.1.2.1, ⟨hk.1.2.2.1, hk.1.2.2.2⟩⟩⟩, hk.2⟩))) (Kd.V_reads' (Kd.V_mono (ok' := (fun k_ => ((fun k_ => (w.heap.size ≤ k_) ∧ k_ ≠ gb617 ∧ k_ ≠ gb624 ∧ k_ ≠ g)) k_ ∧ some k_ ≠ (.slice (some ad656) x625005_5.length co76 : Value).ownBlock)) (HL656_5.out) (fun k_ hk => ⟨⟨hk.1.1, ⟨hk.1.2.1, ⟨hk.1.2.2.1, hk.1.2.2.2⟩⟩⟩, hk.2⟩))).2.1 (Kd.V_F (Kd.V_mono (ok' := (fun k_ => ((fun k_ => (w.heap.size ≤ k_) ∧ k_ ≠ gb617 ∧ k_ ≠ gb624 ∧ k_ ≠ g)) k_ ∧ some k_ ≠ (.slice (some ad656) x625005_5.length co76 : Value).ownBlock)) (HL656_5.out) (fun k_ hk => ⟨⟨hk.1.1, ⟨hk.1.2.1, ⟨hk.1.2.2.1, hk.1.2.2.2⟩⟩⟩, hk.2⟩)))))
       (case aF => exact (fun k_ hk => ⟨(Nat.le_trans (keep_size (w := w) (g := g) (row := none) zk) hk), tfB BK617 k_ hk, tfB BK624 k_ hk, IsS101.fresh zi101 k_ hk⟩))
       (case aO => exact (tN HO_625005.out))
       (case aS => exact (keep_size (w := w) (g := g) (row := none) zk))
       (case aL => have := LMc73.out; omega)
       intro v658 w77 ho hb hg hat
       rw [← Ny657.out] at ho
       replace BK617 := Aside0.mk (blk_grown (tH BK617.out) hg (Kd.N_ne HO_625005.out BK617.out (by decide)))
       replace BK624 := Aside0.mk (blk_grown (tH BK624.out) hg (Kd.N_ne HO_625005.out BK624.out (by decide)))
       replace HL656_3 := Aside0.mk (Kd.V_afterv (ok := (fun k_ => (w.heap.size ≤ k_) ∧ k_ ≠ gb617 ∧ k_ ≠ gb624 ∧ k_ ≠ g)) (tV HL656_3.out) hg hat)
       replace HL656_5 := Aside0.mk (Kd.V_afterv (ok := (fun k_ => (w.heap.size ≤ k_) ∧ k_ ≠ gb617 ∧ k_ ≠ gb624 ∧ k_ ≠ g)) (tV HL656_5.out) hg hat)
       replace HB := Aside0.mk (below_weaken zb HL.out hb)
       replace HI0 := Aside0.mk (IsS101.grown zi101 hg (IsS101.own_neN HI0.out HO_625005.out (by decide)))
       replace HK := Aside0.mk (KeepBut.trans zk (KeepBut.of_grown hg g) (Kd.N_base2 HO_625005.out))
       have HO659 := Aside0.mk (ho)
       clear HO_625005
       clear ho hb hg hat
       obtain ⟨Ao78, co78, eo78⟩ := Kd.N_slice HO659.out
       (first | subst eo78 | (injection eo78 with f1_ f2_ f3_; have f4_ := f1_.symm; have f5_ := f3_.symm; clear f1_ f2_ f3_; subst f4_; subst f5_))
       refine hK.out _ _ ?_
       clear hK K
       refine tnm (some 58) ?_
       refine tpu 8 (some 59) #[true, true, true, true, true, true, true, true, true, false] ?_
       refine last_ (i := 9) (N := none) #[true, true, true, true, true, true, true, true, true, true] rfl rfl (one_of HT_.out (by kernel_rfl)) (by decide) (fun K hK => ?_)
       have hs79 : w77.cell? ⟨gb624, 5, none⟩ = some (.slice (some ad656) x625005_5.length co76) := (blk_cell BK624.out 5).trans rfl
       have hfs79 := blk_frozen BK624.out 5
       have hns79_0 := NB617_624.out
       have hms79_0 := NB624_617.out
       refine tsk ?_
       refine hK.out _ _ ?_
       clear hK K
       refine done_ (done_of HT_.out (by kernel_rfl)) ?_
       have hnb80 := NB624_617.out
       have hnc80 := NB617_624.out
       have hnb81 := NB624_0.out
       have hnc81 := NB0_624.out
       obtain ⟨hcz82_0, hcz82_1, hcz82_2, hcz82_3, hcz82_4, hcz82_5, hfz82_0, hfz82_1, hfz82_2, hfz82_3, hfz82_4, hfz82_5⟩ := cells6 BK624.out
       have hnb83 := NB617_0.out
       have hnc83 := NB0_617.out
       obtain ⟨hcz84_0, hcz84_1, hcz84_2, hcz84_3, hcz84_4, hcz84_5, hfz84_0, hfz84_1, hfz84_2, hfz84_3, hfz84_4, hfz84_5⟩ := cells6 BK617.out
       try go_wp2
       refine bodyPost_ret (results_cell_row rfl _ _ gb617 84 #[.bool (t618 == 0), .bool x625001_5, .int .i64 x625002_5, .int .i64 x625003_5, .int .i64 x625004_5, .slice Ao78 y657.length co78] (0, 0) _ rfl (tP BK617.out) Tryd.underlying84 rfl (by kernel_rfl)) rfl ?_
       exact ⟨_, by first | rfl | (simp [errW_none, errW_some] <;> rfl) | (simp [*, errW_none, errW_some] <;> rfl), by (with_reducible repeat (first | apply Kd.N_alloc | apply Kd.N_drewN | apply Kd.N_drew)); exact Kd.N_mono (Kd.N_far (p := ⟨gb617, 5, none⟩) (Kd.N_far (p := ⟨gb617, 4, none⟩) (Kd.N_far (p := ⟨gb617, 3, none⟩) (Kd.N_far (p := ⟨gb617, 2, none⟩) (Kd.N_far (p := ⟨gb617, 1, none⟩) (Kd.N_far (p := ⟨gb617, 0, none⟩) (Kd.N_far (p := ⟨gb624, 5, none⟩) (Kd.N_mono (Kd.N_mono HO659.out (fun k_ hk => (⟨hk, hk.2.2.1⟩ : _ ∧ k_ ≠ gb624))) (fun k_ hk => (⟨hk, hk.1.2.1⟩ : _ ∧ k_ ≠ gb617))) (fun _ hk => hk.1.2) (.slice Ao78 y657.length co78)) (fun _ hk => hk.2) (.bool (t618 == 0))) (fun _ hk => hk.2) (.bool x625001_5)) (fun _ hk => hk.2) (.int .i64 x625002_5)) (fun _ hk => hk.2) (.int .i64 x625003_5)) (fun _ hk => hk.2) (.int .i64 x625004_5)) (fun _ hk => hk.2) (.slice Ao78 y657.length co78)) (fun _ hk => hk.1.1.1), zi101, zb, zk⟩
      ·rw [if_neg c73] at H
       exact absurd H (by simp)
     ·rw [if_neg c72] at H
      exact absurd H (by simp)
    ·rw [if_neg c71] at H
     have c71b0 : (t648 == 1) = false := beq_eq_false_iff_ne.mpr c71
     have c71b1 : (t648 != 1) = true := bne_iff_ne.mpr c71
     by_cases c85 : t648 = 2
     ·rw [if_pos c85] at H
      have c85b0 : (t648 == 2) = true := beq_iff_eq.mpr c85
      have c85b1 : (t648 != 2) = false := bne_eq_false_iff_eq.mpr c85
      clear c85
      simp only [Option.some.injEq, Prod.mk.injEq] at H
      obtain ⟨rfl, rfl, rfl, rfl, rfl, rfl, rfl⟩ := H
      go_wp2_with (first | ((with_reducible refine gate_callee (f := 51) rfl ?_); refine goesL_ (some 40) rfl rfl Tryd.func51 (by kernel_rfl) rfl #[.pointer (some ⟨g, 0, none⟩), .int .i64 40] rfl tq ?_; (with_reducible refine (spec_l6Rd_pick.calls kj5 g s0_0 x1001_5 40 t648 t649 w0 _ ?side1 ?side2 A55.out).mono ?_); (case side1 => exact zi101); (case side2 => exact zb); rintro e w86 ⟨rfl, hi, hb, hk⟩; refine ⟨_, rfl, ?_⟩; replace HO_625005 := tNk HO_625005 hk; replace BK617 := tBk BK617 hk NB617_0; replace BK624 := tBk BK624 hk NB624_0; replace HK := tKt HK hk; replace HB := Aside0.mk (hb); replace HI0 := Aside0.mk (hi); (try clear hb); (try clear hb2); (try clear hk); (try clear hi); have hnb87 := NB624_617.out; have hnc87 := NB617_624.out; have hnb88 := NB624_0.out; have hnc88 := NB0_624.out; obtain ⟨hcz89_0, hcz89_1, hcz89_2, hcz89_3, hcz89_4, hcz89_5, hfz89_0, hfz89_1, hfz89_2, hfz89_3, hfz89_4, hfz89_5⟩ := cells6 BK624.out; have hnb90 := NB617_0.out; have hnc90 := NB0_617.out; obtain ⟨hcz91_0, hcz91_1, hcz91_2, hcz91_3, hcz91_4, hcz91_5, hfz91_0, hfz91_1, hfz91_2, hfz91_3, hfz91_4, hfz91_5⟩ := cells6 BK617.out; obtain ⟨Ao92, co92, eo92⟩ := Kd.N_slice HO_625005.out; subst eo92))
      refine bodyPost_ret (results_cell_row rfl _ _ gb617 84 #[.bool (t618 == 0), .bool (!x625001_5), .int .i64 x625002_5, .int .i64 x625003_5, .int .i64 x625004_5, .slice Ao92 x625005_5.length co92] (0, 0) _ rfl (tP BK617.out) Tryd.underlying84 rfl (by kernel_rfl)) rfl ?_
      exact ⟨_, by first | rfl | (simp [errW_none, errW_some] <;> rfl) | (simp [*, errW_none, errW_some] <;> rfl), by (with_reducible repeat (first | apply Kd.N_alloc | apply Kd.N_drewN | apply Kd.N_drew)); exact Kd.N_mono (Kd.N_far (p := ⟨gb617, 5, none⟩) (Kd.N_far (p := ⟨gb617, 4, none⟩) (Kd.N_far (p := ⟨gb617, 3, none⟩) (Kd.N_far (p := ⟨gb617, 2, none⟩) (Kd.N_far (p := ⟨gb617, 1, none⟩) (Kd.N_far (p := ⟨gb617, 0, none⟩) (Kd.N_far (p := ⟨gb624, 1, none⟩) (Kd.N_mono (Kd.N_mono HO_625005.out (fun k_ hk => (⟨hk, hk.2.2.1⟩ : _ ∧ k_ ≠ gb624))) (fun k_ hk => (⟨hk, hk.1.2.1⟩ : _ ∧ k_ ≠ gb617))) (fun _ hk => hk.1.2) (.bool (!x625001_5))) (fun _ hk => hk.2) (.bool (t618 == 0))) (fun _ hk => hk.2) (.bool (!x625001_5))) (fun _ hk => hk.2) (.int .i64 x625002_5)) (fun _ hk => hk.2) (.int .i64 x625003_5)) (fun _ hk => hk.2) (.int .i64 x625004_5)) (fun _ hk => hk.2) (.slice Ao92 x625005_5.length co92)) (fun _ hk => hk.1.1.1), zi101, zb, zk⟩
     ·rw [if_neg c85] at H
      have c85b0 : (t648 == 2) = false := beq_eq_false_iff_ne.mpr c85
      have c85b1 : (t648 != 2) = true := bne_iff_ne.mpr c85
      simp only [Option.some.injEq, Prod.mk.injEq] at H
      obtain ⟨rfl, rfl, rfl, rfl, rfl, rfl, rfl⟩ := H
      go_wp2_with (first | ((with_reducible refine gate_callee (f := 51) rfl ?_); refine goesL_ (some 40) rfl rfl Tryd.func51 (by kernel_rfl) rfl #[.pointer (some ⟨g, 0, none⟩), .int .i64 40] rfl tq ?_; (with_reducible refine (spec_l6Rd_pick.calls kj5 g s0_0 x1001_5 40 t648 t649 w0 _ ?side1 ?side2 A55.out).mono ?_); (case side1 => exact zi101); (case side2 => exact zb); rintro e w93 ⟨rfl, hi, hb, hk⟩; refine ⟨_, rfl, ?_⟩; replace HO_625005 := tNk HO_625005 hk; replace BK617 := tBk BK617 hk NB617_0; replace BK624 := tBk BK624 hk NB624_0; replace HK := tKt HK hk; replace HB := Aside0.mk (hb); replace HI0 := Aside0.mk (hi); (try clear hb); (try clear hb2); (try clear hk); (try clear hi); have hnb94 := NB624_617.out; have hnc94 := NB617_624.out; have hnb95 := NB624_0.out; have hnc95 := NB0_624.out; obtain ⟨hcz96_0, hcz96_1, hcz96_2, hcz96_3, hcz96_4, hcz96_5, hfz96_0, hfz96_1, hfz96_2, hfz96_3, hfz96_4, hfz96_5⟩ := cells6 BK624.out; have hnb97 := NB617_0.out; have hnc97 := NB0_617.out; obtain ⟨hcz98_0, hcz98_1, hcz98_2, hcz98_3, hcz98_4, hcz98_5, hfz98_0, hfz98_1, hfz98_2, hfz98_3, hfz98_4, hfz98_5⟩ := cells6 BK617.out; obtain ⟨Ao99, co99, eo99⟩ := Kd.N_slice HO_625005.out; subst eo99))
      refine bodyPost_ret (results_cell_row rfl _ _ gb617 84 #[.bool (t618 == 0), .bool x625001_5, .int .i64 x625002_5, .int .i64 x625003_5, .int .i64 x625004_5, .slice Ao99 x625005_5.length co99] (0, 0) _ rfl (tP BK617.out) Tryd.underlying84 rfl (by kernel_rfl)) rfl ?_
      exact ⟨_, by first | rfl | (simp [errW_none, errW_some] <;> rfl) | (simp [*, errW_none, errW_some] <;> rfl), tNm HO_625005.out, zi101, zb, zk⟩

end Go.Proofs.YteoicjlhkaljbaaDoor.G

