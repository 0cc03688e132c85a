/- A text of seat YtahenocndacjeaaDoor: what the law FnJoinCut needs of this repo's texts (by pack.py). Not trusted: Lean checks it. -/
import Derived.Test.YtahenocndacjeaaDoorKFnJoinCut6
namespace Go.Proofs.YtahenocndacjeaaDoor.G
open Go.RowKit Go.Proofs.YtahenocndacjeaaDoorW.PrintWords Go.Proofs.YtahenocndacjeaaDoorW.PrintLast Go.Proofs.YtahenocndacjeaaDoorW.PrintMore
attribute [local go_sem] max2_int min2_int max_two min_two max_three min_three max_four min_four   -- for this text's walks alone
set_option linter.unusedVariables false
set_option linter.unusedSimpArgs false

mutual
def impl_Batch_cut.j0 : Nat → Int → Bool → Bool → Bool → Int → Int → Int → List (S41) → Option (Bool × Bool × Int × Int × Int × (List (S41)) × Bool × Bool × Int × Int × Int × (List (S41)) × Option Int)
 | 0, _, _, _, _, _, _, _, _ => none
 | k + 1, x1, x18, x261000, x261001, x261002, x261003, x261004, x261005 => if x18 = true then (some (false, false, 0, 0, 0, ([] : List (S41)), false, false, 0, 0, 0, ([] : List (S41)), some 1)) else (impl_Batch_cut.l0 k x1 x261005 (x261005.length : Int) 0 x261000 false 255 0 0 ([] : List (S41)) x261000 false 255 0 0 ([] : List (S41)))
def impl_Batch_cut.l0 : Nat → Int → List (S41) → Int → Int → Bool → Bool → Int → Int → Int → List (S41) → Bool → Bool → Int → Int → Int → List (S41) → Option (Bool × Bool × Int × Int × Int × (List (S41)) × Bool × Bool × Int × Int × Int × (List (S41)) × Option Int)
 | 0, _, _, _, _, _, _, _, _, _, _, _, _, _, _, _, _ => none
 | k + 1, x1, x27, x28, x29, x265000, x265001, x265002, x265003, x265004, x265005, x266000, x266001, x266002, x266003, x266004, x266005 => if x29 < x28 then (if 0 ≤ x29 then (if x29 < (x27.length : Int) then (if ((rd_T41 x27 x29).f0) < x1 then ((impl_Record_copyOf.f ((rd_T41 x27 x29).f0) ((rd_T41 x27 x29).f1) ((rd_T41 x27 x29).f2) ((rd_T41 x27 x29).f3) ((rd_T41 x27 x29).f4) ((rd_T41 x27 x29).f5)).bind fun bt268 => (if x265005.length < 1759218604441 then (impl_Batch_cut.l0 k x1 x27 x28 (wrap64 (x29 + 1)) x265000 x265001 x265002 x265003 x265004 (x265005 ++ [(⟨bt268.1, bt268.2.1, bt268.2.2.1, bt268.2.2.2.1, bt268.2.2.2.2.1, bt268.2.2.2.2.2⟩ : S41)]) x266000 x266001 x266002 x266003 x266004 x266005) else (none))) else ((impl_Record_copyOf.f ((rd_T41 x27 x29).f0) ((rd_T41 x27 x29).f1) ((rd_T41 x27 x29).f2) ((rd_T41 x27 x29).f3) ((rd_T41 x27 x29).f4) ((rd_T41 x27 x29).f5)).bind fun bt281 => (if x266005.length < 1759218604441 then (impl_Batch_cut.l0 k x1 x27 x28 (wrap64 (x29 + 1)) x265000 x265001 x265002 x265003 x265004 x265005 x266000 x266001 x266002 x266003 x266004 (x266005 ++ [(⟨bt281.1, bt281.2.1, bt281.2.2.1, bt281.2.2.2.1, bt281.2.2.2.2.1, bt281.2.2.2.2.2⟩ : S41)])) else (none)))) else (none)) else (none)) else (if (x265005.length : Int) = 0 then (some (false, false, 0, 0, 0, ([] : List (S41)), false, false, 0, 0, 0, ([] : List (S41)), some 1)) else (if (x266005.length : Int) = 0 then (some (false, false, 0, 0, 0, ([] : List (S41)), false, false, 0, 0, 0, ([] : List (S41)), some 1)) else (some (x265000, x265001, x265002, x265003, x265004, x265005, x266000, x266001, x266002, x266003, x266004, x266005, none))))
end
def impl_Batch_cut.f (k : Nat) (a0_0 : Bool) (a0_1 : Bool) (a0_2 : Int) (a0_3 : Int) (a0_4 : Int) (l0_5 : List (S41)) (a1 : Int) : Option (Bool × Bool × Int × Int × Int × (List (S41)) × Bool × Bool × Int × Int × Int × (List (S41)) × Option Int) := (impl_BatchValid.f k a0_0 a0_1 a0_2 a0_3 a0_4 l0_5).bind fun t263 => (if t263 = true then (impl_Batch_cut.j0 k a1 (a0_2 != 255) a0_0 a0_1 a0_2 a0_3 a0_4 l0_5) else (impl_Batch_cut.j0 k a1 true a0_0 a0_1 a0_2 a0_3 a0_4 l0_5))
def impl_Batch_cut.T9 : Bool × List (List Nat × List Nat) := (true, [([], []), ([0], [0]), ([], []), ([2], [2]), ([3], [3]), ([1, 4, 3], [1, 4]), ([0, 1, 2, 3, 4, 5], []), ([6, 5, 5, 0, 1, 2, 3, 4, 5], [5, 6])])
def impl_Batch_cut.B9 : List Nat := [0, 1, 0, 4, 12, 31, 63, 127]
theorem impl_Batch_cut.tab9 : rtab .any (opsOf Tryd.f26 9) = impl_Batch_cut.T9 := by kernel_rfl
theorem impl_Batch_cut.bits9 : waitsOk impl_Batch_cut.T9.2 impl_Batch_cut.B9 = true := by kernel_rfl
def impl_Batch_cut.T10 : Bool × List (List Nat × List Nat) := (true, [([], []), ([0], [0]), ([], []), ([2], [2]), ([3], [3]), ([1, 4, 3], [1, 4]), ([0, 1, 2, 3, 4, 5], []), ([6, 5, 5, 0, 1, 2, 3, 4, 5], [5, 6])])
def impl_Batch_cut.B10 : List Nat := [0, 1, 0, 4, 12, 31, 63, 127]
theorem impl_Batch_cut.tab10 : rtab .any (opsOf Tryd.f26 10) = impl_Batch_cut.T10 := by kernel_rfl
theorem impl_Batch_cut.bits10 : waitsOk impl_Batch_cut.T10.2 impl_Batch_cut.B10 = true := by kernel_rfl
set_option maxHeartbeats 40000000 in
set_option maxRecDepth 100000 in
theorem impl_Batch_cut.calls [ErrA] (k : Nat) (a0_0 : Bool) (a0_1 : Bool) (a0_2 : Int) (a0_3 : Int) (a0_4 : Int) (A0_5 : Option Addr) (c0_5 : Nat) (l0_5 : List (S41)) (a1 : Int) (r1 : Bool) (r2 : Bool) (r3 : Int) (r4 : Int) (r5 : Int) (r6 : List (S41)) (r7 : Bool) (r8 : Bool) (r9 : Int) (r10 : Int) (r11 : Int) (r12 : List (S41)) (r13 : Option Int) (w : World) (hE : ErrOk [0] w) (hr0_5 : Kd.C k41 w A0_5 l0_5.length l0_5) (hc0_5 : l0_5.length ≤ c0_5) (h : impl_Batch_cut.f k a0_0 a0_1 a0_2 a0_3 a0_4 l0_5 a1 = some (r1, r2, r3, r4, r5, r6, r7, r8, r9, r10, r11, r12, r13)) :
  Calls Tryd.prog 26 #[.agg #[.bool a0_0, .bool a0_1, .int .i64 a0_2, .int .i64 a0_3, .int .i64 a0_4, .slice A0_5 l0_5.length c0_5], .int .i64 a1] w fun e w' => ∃ v5_ v11_ : Value, e = .returned (.tuple #[.agg #[.bool r1, .bool r2, .int .i64 r3, .int .i64 r4, .int .i64 r5, v5_], .agg #[.bool r7, .bool r8, .int .i64 r9, .int .i64 r10, .int .i64 r11, v11_], errW r13]) ∧ Kd.S k41 41 w' w.heap.size (fun k_ => some k_ ≠ (v11_ : Value).ownBlock) v5_ r6 ∧ Kd.S k41 41 w' w.heap.size (fun k_ => some k_ ≠ (v5_ : Value).ownBlock) v11_ r12 ∧ Below w.heap.size w w' := by
 have HE := Aside0.mk hE
 clear hE
 have hu25 := Tryd.underlying25
 have hu41 := Tryd.underlying41
 have HR0_5 := Aside0.mk hr0_5
 have HC0_5 := Aside0.mk hc0_5
 clear hr0_5 hc0_5
 have HB := Aside0.mk (Below.refl w.heap.size w)
 have H : ((impl_BatchValid.f k a0_0 a0_1 a0_2 a0_3 a0_4 l0_5).bind fun t263 => (if t263 = true then (impl_Batch_cut.j0 k a1 (a0_2 != 255) a0_0 a0_1 a0_2 a0_3 a0_4 l0_5) else (impl_Batch_cut.j0 k a1 true a0_0 a0_1 a0_2 a0_3 a0_4 l0_5))) = some (r1, r2, r3, r4, r5, r6, r7, r8, r9, r10, r11, r12, r13) := h
 clear h
 have HC3 := Aside0.mk H
 clear H
 go_enter Tryd.func26, Tryd.ntmps26
 go_upto_region 1 with (first | ((with_reducible refine gate_dst (N := 2) rfl ?_); (try (refine gate_guard (by rfl) ?_; dsimp only)); refine box_event ?hg (N := 2) ?hd (cs := #[.bool a0_0, .bool a0_1, .int .i64 a0_2, .int .i64 a0_3, .int .i64 a0_4, .slice A0_5 l0_5.length c0_5]) (t := 25) ?hr ?_; (case hd => rfl); (case hg => rfl); (case hr => first | (go_simp; done) | (go_simp; rfl)); intro gb260 hg w4 hbox hb; have BK260 := Aside0.mk (hbox); have GW260 := tge HB hg; have GE260 := tge HB hg; replace HB := tBs HB hb; clear hb hbox hg) | ((with_reducible refine gate_dst (N := 4) rfl ?_); (try (refine gate_guard (by rfl) ?_; dsimp only)); refine box_event ?hg (N := 4) ?hd (cs := #[.bool false, .bool false, .int .i64 0, .int .i64 0, .int .i64 0, .slice none 0 0]) (t := 25) ?hr ?_; (case hd => rfl); (case hg => rfl); (case hr => first | (go_simp; done) | (go_simp; rfl)); intro gb261 hg w5 hbox hb; have BK261 := Aside0.mk (hbox); have GW261 := tge HB hg; have GE261 := tge HB hg; replace HB := tBs HB hb; have NB260_261 := tlt BK260 hg; have NB261_260 := tgt BK260 hg; replace BK260 := tBb BK260 hb; clear hb hbox hg) | ((with_reducible refine gate_dst (N := 5) rfl ?_); (try (refine gate_guard (by rfl) ?_; dsimp only)); refine box_event ?hg (N := 5) ?hd (cs := #[.bool false, .bool false, .int .i64 0, .int .i64 0, .int .i64 0, .slice none 0 0]) (t := 25) ?hr ?_; (case hd => rfl); (case hg => rfl); (case hr => first | (go_simp; done) | (go_simp; rfl)); intro gb262 hg w6 hbox hb; have BK262 := Aside0.mk (hbox); have GW262 := tge HB hg; have GE262 := tge HB hg; replace HB := tBs HB hb; have NB260_262 := tlt BK260 hg; have NB262_260 := tgt BK260 hg; replace BK260 := tBb BK260 hb; have NB261_262 := tlt BK261 hg; have NB262_261 := tgt BK261 hg; replace BK261 := tBb BK261 hb; clear hb hbox hg))
 (try simp only [Act.put, List.setIfInBounds_toArray, List.set_cons_zero, List.set_cons_succ])
 go_cut [18] (fun v18 wc => ∃ (kq : Nat) (x18_2 : Bool), v18 = .bool x18_2 ∧ Aside0 (impl_Batch_cut.j0 kq a1 x18_2 a0_0 a0_1 a0_2 a0_3 a0_4 l0_5 = some (r1, r2, r3, r4, r5, r6, r7, r8, r9, r10, r11, r12, r13)) ∧ Aside0 (kq ≤ k) ∧ Aside0 (wc.heap[gb260]? = some (.cells #[.bool a0_0, .bool a0_1, .int .i64 a0_2, .int .i64 a0_3, .int .i64 a0_4, (.slice A0_5 l0_5.length c0_5)] 25 (0, 0))) ∧ Aside0 (wc.heap[gb261]? = some (.cells #[.bool false, .bool false, .int .i64 0, .int .i64 0, .int .i64 0, (.slice none 0 0)] 25 (0, 0))) ∧ Aside0 (wc.heap[gb262]? = some (.cells #[.bool false, .bool false, .int .i64 0, .int .i64 0, .int .i64 0, (.slice none 0 0)] 25 (0, 0))) ∧ Aside0 (Below w.heap.size w wc))
 case first =>
  have H := HC3.out
  clear HC3
  replace H := tbe H
  obtain ⟨t263, A7, H⟩ := H
  by_cases c8 : t263 = true
  ·subst c8
   rw [if_pos rfl] at H
   have H' := Aside0.mk H
   clear H
   have hnb9 := NB260_261.out
   have hnc9 := NB261_260.out
   have hnb10 := NB260_262.out
   have hnc10 := NB262_260.out
   obtain ⟨hcz11_0, hcz11_1, hcz11_2, hcz11_3, hcz11_4, hcz11_5, hfz11_0, hfz11_1, hfz11_2, hfz11_3, hfz11_4, hfz11_5⟩ := cells6 BK260.out
   go_wp2_with (first | ((with_reducible refine gate_dst (N := 64) rfl ?_); refine glob_ rfl (v := .iface 106 (.pointer (some (ErrA.errA 1)))) (g := 0) ?hr ?hc ?_; (case hc => exact ErrOk.g0 (ErrOk.below HE.out zb) (by decide)); (case hr => intro W_ hc_; go_simp)) | ((with_reducible refine gate_dst (N := 21) rfl ?_); refine glob_ rfl (v := .iface 106 (.pointer (some (ErrA.errA 1)))) (g := 0) ?hr ?hc ?_; (case hc => exact ErrOk.g0 (ErrOk.below HE.out zb) (by decide)); (case hr => intro W_ hc_; go_simp)) | ((with_reducible refine gate_callee (f := 13) rfl ?_); refine goesL_ (some 12) rfl rfl Tryd.func13 (by kernel_rfl) rfl #[.agg #[.bool a0_0, .bool a0_1, .int .i64 a0_2, .int .i64 a0_3, .int .i64 a0_4, .slice A0_5 l0_5.length c0_5]] rfl tq ?_; (with_reducible refine (impl_BatchValid.calls k a0_0 a0_1 a0_2 a0_3 a0_4 _ _ l0_5 true _ ?side1 ?side2 A7.out).mono ?_); (case side1 => exact tC (Kd.C_below HR0_5.out HB.out)); (case side2 => exact HC0_5.out); rintro e w12 ⟨rfl, hb⟩; refine ⟨_, rfl, ?_⟩; replace BK260 := tBb BK260 hb; replace BK261 := tBb BK261 hb; replace BK262 := tBb BK262 hb; replace HB := tBs HB hb; (try clear hb); (try clear hb2); (try clear hk); (try clear hi); obtain ⟨hcz13_0, hcz13_1, hcz13_2, hcz13_3, hcz13_4, hcz13_5, hfz13_0, hfz13_1, hfz13_2, hfz13_3, hfz13_4, hfz13_5⟩ := cells6 BK260.out))
   go_meet
   case rel => exact ⟨_, ((a0_2 != 255)), tr, H', ⟨by first | omega | exact Nat.le_refl _⟩, ⟨tH BK260.out⟩, ⟨tH BK261.out⟩, ⟨tH BK262.out⟩, ⟨zb⟩⟩
  ·replace c8 := Bool.eq_false_iff.mpr c8
   subst c8
   rw [if_neg (show ¬ (false = true) by decide)] at H
   have H' := Aside0.mk H
   clear H
   have hnb14 := NB260_261.out
   have hnc14 := NB261_260.out
   have hnb15 := NB260_262.out
   have hnc15 := NB262_260.out
   obtain ⟨hcz16_0, hcz16_1, hcz16_2, hcz16_3, hcz16_4, hcz16_5, hfz16_0, hfz16_1, hfz16_2, hfz16_3, hfz16_4, hfz16_5⟩ := cells6 BK260.out
   go_wp2_with (first | ((with_reducible refine gate_dst (N := 64) rfl ?_); refine glob_ rfl (v := .iface 106 (.pointer (some (ErrA.errA 1)))) (g := 0) ?hr ?hc ?_; (case hc => exact ErrOk.g0 (ErrOk.below HE.out zb) (by decide)); (case hr => intro W_ hc_; go_simp)) | ((with_reducible refine gate_dst (N := 21) rfl ?_); refine glob_ rfl (v := .iface 106 (.pointer (some (ErrA.errA 1)))) (g := 0) ?hr ?hc ?_; (case hc => exact ErrOk.g0 (ErrOk.below HE.out zb) (by decide)); (case hr => intro W_ hc_; go_simp)) | ((with_reducible refine gate_callee (f := 13) rfl ?_); refine goesL_ (some 12) rfl rfl Tryd.func13 (by kernel_rfl) rfl #[.agg #[.bool a0_0, .bool a0_1, .int .i64 a0_2, .int .i64 a0_3, .int .i64 a0_4, .slice A0_5 l0_5.length c0_5]] rfl tq ?_; (with_reducible refine (impl_BatchValid.calls k a0_0 a0_1 a0_2 a0_3 a0_4 _ _ l0_5 false _ ?side1 ?side2 A7.out).mono ?_); (case side1 => exact tC (Kd.C_below HR0_5.out HB.out)); (case side2 => exact HC0_5.out); rintro e w17 ⟨rfl, hb⟩; refine ⟨_, rfl, ?_⟩; replace BK260 := tBb BK260 hb; replace BK261 := tBb BK261 hb; replace BK262 := tBb BK262 hb; replace HB := tBs HB hb; (try clear hb); (try clear hb2); (try clear hk); (try clear hi)))
   go_meet
   case rel => exact ⟨_, (true), tr, H', ⟨by first | omega | exact Nat.le_refl _⟩, ⟨tH BK260.out⟩, ⟨tH BK261.out⟩, ⟨tH BK262.out⟩, ⟨zb⟩⟩
 case rest =>
  clear HC3
  obtain ⟨kq, x18_2, rfl, HA, HJ2, BK260, BK261, BK262, HB⟩ := hcut
  cases kq with
  | zero => exact absurd HA.out (by simp [impl_Batch_cut.j0])
  | succ kj2 =>
   have H := HA.out
   clear HA
   simp only [impl_Batch_cut.j0] at H
   by_cases c18 : x18_2 = true
   ·subst c18
    rw [if_pos rfl] at H
    simp only [Option.some.injEq, Prod.mk.injEq] at H
    obtain ⟨rfl, rfl, rfl, rfl, rfl, rfl, rfl, rfl, rfl, rfl, rfl, rfl, rfl⟩ := H
    try go_wp2
    replace BK260 := Aside0.mk (blk_drew BK260.out)
    replace BK261 := Aside0.mk (blk_drew BK261.out)
    replace BK262 := Aside0.mk (blk_drew BK262.out)
    replace HB := Aside0.mk (below_drew1 HB.out)
    refine start_ (n := 6) (S := ErrOk [0]) (ds := []) #[false, false, false, false, false, false] (by kernel_rfl) rfl rfl (ErrOk.below HE.out HB.out) (fun hHeld => ?_)
    generalize wc.drew = w19 at BK260 BK261 BK262 HB hHeld ⊢
    refine pure_ (i := 0) (N := some 19) (v := ?_) (a' := ?_) #[true, false, false, false, false, false] rfl rfl (by kernel_rfl) (fun _ _ _ h => h) (Or.inl ⟨by rfl, ?_⟩) ?_ ?_
    rotate_left
    ·intro w'
     go_simp
     with_reducible rfl
    rotate_left
    ·simp only [Act.put, List.setIfInBounds_toArray, List.set_cons_zero, List.set_cons_succ, i64_w, i32_w]
     rfl
    refine pure_ (i := 1) (N := some 20) (v := ?_) (a' := ?_) #[true, true, false, false, false, false] rfl rfl (by kernel_rfl) (fun _ _ _ h => h) (Or.inl ⟨by rfl, ?_⟩) ?_ ?_
    rotate_left
    ·intro w'
     go_simp
     with_reducible rfl
    rotate_left
    ·simp only [Act.put, List.setIfInBounds_toArray, List.set_cons_zero, List.set_cons_succ, i64_w, i32_w]
     rfl
    refine take_ (i := 2) (N := some 21) (v := ?_) (a' := ?_) #[true, true, true, false, false, false] rfl rfl (by kernel_rfl) (fun _ _ _ h => h) (Or.inl ⟨by rfl, ?_⟩) hHeld ?_ ?_
    rotate_left
    ·intro w' hS_
     try have hg0_ := ErrOk.g0 hS_ (by decide)
     try have hg1_ := ErrOk.g1 hS_ (by decide)
     clear hS_
     go_simp
     with_reducible rfl
    rotate_left
    ·simp only [Act.put, List.setIfInBounds_toArray, List.set_cons_zero, List.set_cons_succ, i64_w, i32_w]
     rfl
    refine one_ (i := 3) (N := none) #[true, true, true, true, false, false] rfl rfl (by kernel_rfl) (by decide) (fun K hK => ?_)
    have hs20 : w19.cell? ⟨gb261, 0, none⟩ = some (.bool false) := (blk_cell BK261.out 0).trans rfl
    have hfs20 := blk_frozen BK261.out 0
    have hns20_0 := NB260_261.out
    have hns20_2 := NB262_261.out
    have hms20_0 := NB261_260.out
    have hms20_2 := NB261_262.out
    have hs21 : w19.cell? ⟨gb261, 1, none⟩ = some (.bool false) := (blk_cell BK261.out 1).trans rfl
    have hfs21 := blk_frozen BK261.out 1
    have hs22 : w19.cell? ⟨gb261, 2, none⟩ = some (.int .i64 0) := (blk_cell BK261.out 2).trans rfl
    have hfs22 := blk_frozen BK261.out 2
    have hs23 : w19.cell? ⟨gb261, 3, none⟩ = some (.int .i64 0) := (blk_cell BK261.out 3).trans rfl
    have hfs23 := blk_frozen BK261.out 3
    have hs24 : w19.cell? ⟨gb261, 4, none⟩ = some (.int .i64 0) := (blk_cell BK261.out 4).trans rfl
    have hfs24 := blk_frozen BK261.out 4
    have hs25 : w19.cell? ⟨gb261, 5, none⟩ = some (.slice none 0 0) := (blk_cell BK261.out 5).trans rfl
    have hfs25 := blk_frozen BK261.out 5
    refine tsk ?_
    refine hK.out _ _ (by repeat (first | (with_reducible exact hHeld) | (with_reducible refine ErrOk.set HE.out ?_ (by with_reducible first | exact GE260.out | exact GE261.out | exact GE262.out | exact GE264.out | exact GE265.out | exact GE267.out) _ _))) (fun hHeld => ?_)
    clear hK K
    refine one_ (i := 4) (N := none) #[true, true, true, true, true, false] rfl rfl (by kernel_rfl) (by decide) (fun K hK => ?_)
    have hs26 : w19.cell? ⟨gb262, 0, none⟩ = some (.bool false) := (blk_cell BK262.out 0).trans rfl
    have hfs26 := blk_frozen BK262.out 0
    have hns26_0 := NB260_262.out
    have hns26_1 := NB261_262.out
    have hms26_0 := NB262_260.out
    have hms26_1 := NB262_261.out
    have hs27 : w19.cell? ⟨gb262, 1, none⟩ = some (.bool false) := (blk_cell BK262.out 1).trans rfl
    have hfs27 := blk_frozen BK262.out 1
    have hs28 : w19.cell? ⟨gb262, 2, none⟩ = some (.int .i64 0) := (blk_cell BK262.out 2).trans rfl
    have hfs28 := blk_frozen BK262.out 2
    have hs29 : w19.cell? ⟨gb262, 3, none⟩ = some (.int .i64 0) := (blk_cell BK262.out 3).trans rfl
    have hfs29 := blk_frozen BK262.out 3
    have hs30 : w19.cell? ⟨gb262, 4, none⟩ = some (.int .i64 0) := (blk_cell BK262.out 4).trans rfl
    have hfs30 := blk_frozen BK262.out 4
    have hs31 : w19.cell? ⟨gb262, 5, none⟩ = some (.slice none 0 0) := (blk_cell BK262.out 5).trans rfl
    have hfs31 := blk_frozen BK262.out 5
    refine tsk ?_
    refine hK.out _ _ (by repeat (first | (with_reducible exact hHeld) | (with_reducible refine ErrOk.set HE.out ?_ (by with_reducible first | exact GE260.out | exact GE261.out | exact GE262.out | exact GE264.out | exact GE265.out | exact GE267.out) _ _))) (fun hHeld => ?_)
    clear hK K
    refine pure_ (i := 5) (N := some 6) (v := ?_) (a' := ?_) #[true, true, true, true, true, true] rfl rfl (by kernel_rfl) (fun _ _ _ h => h) (Or.inl ⟨by rfl, ?_⟩) ?_ ?_
    rotate_left
    ·intro w'
     go_simp
     with_reducible rfl
    rotate_left
    ·simp only [Act.put, List.setIfInBounds_toArray, List.set_cons_zero, List.set_cons_succ, i64_w, i32_w]
     rfl
    refine done_ (by kernel_rfl) ?_
    try go_wp2
    refine bodyPost_ret (results_list (rs := [.cell 4 25, .cell 5 25, .tmp 6]) rfl (by simp) (.cell gb261 25 #[.bool false, .bool false, .int .i64 0, .int .i64 0, .int .i64 0, .slice none 0 0] (0, 0) _ rfl (tP BK261.out) Tryd.underlying25 rfl (by kernel_rfl) (.cell gb262 25 #[.bool false, .bool false, .int .i64 0, .int .i64 0, .int .i64 0, .slice none 0 0] (0, 0) _ rfl (tP BK262.out) Tryd.underlying25 rfl (by kernel_rfl) (.tmp .nil)))) rfl ?_
    exact ⟨_, _, by first | rfl | (simp [errW_none, errW_some] <;> rfl) | (simp [*, errW_none, errW_some] <;> rfl), by first | exact Kd.S_nil _ _ _ _ _ | exact Kd.N_nil _ _ _ _ _ | exact Kd.V_nil _ _ _ _ _ | exact Kd.Q_nil _ _ _ _ _ | exact Kd.R_nil _ _ _ _ _, by first | exact Kd.S_nil _ _ _ _ _ | exact Kd.N_nil _ _ _ _ _ | exact Kd.V_nil _ _ _ _ _ | exact Kd.Q_nil _ _ _ _ _ | exact Kd.R_nil _ _ _ _ _, zb⟩
   ·replace c18 := Bool.eq_false_iff.mpr c18
    subst c18
    rw [if_neg (show ¬ (false = true) by decide)] at H
    have H' := Aside0.mk H
    clear H
    have hnb32 := NB260_261.out
    have hnc32 := NB261_260.out
    have hnb33 := NB260_262.out
    have hnc33 := NB262_260.out
    obtain ⟨hcz34_0, hcz34_1, hcz34_2, hcz34_3, hcz34_4, hcz34_5, hfz34_0, hfz34_1, hfz34_2, hfz34_3, hfz34_4, hfz34_5⟩ := cells6 BK260.out
    go_wp2_with (first | ((with_reducible refine gate_dst (N := 64) rfl ?_); refine glob_ rfl (v := .iface 106 (.pointer (some (ErrA.errA 1)))) (g := 0) ?hr ?hc ?_; (case hc => exact ErrOk.g0 (ErrOk.below HE.out zb) (by decide)); (case hr => intro W_ hc_; go_simp)) | ((with_reducible refine gate_dst (N := 21) rfl ?_); refine glob_ rfl (v := .iface 106 (.pointer (some (ErrA.errA 1)))) (g := 0) ?hr ?hc ?_; (case hc => exact ErrOk.g0 (ErrOk.below HE.out zb) (by decide)); (case hr => intro W_ hc_; go_simp)) | ((with_reducible refine gate_dst (N := 7) rfl ?_); (try (refine gate_guard (by rfl) ?_; dsimp only)); refine box_event ?hg (N := 7) ?hd (cs := #[.bool false, .bool false, .int .i64 0, .int .i64 0, .int .i64 0, .slice none 0 0]) (t := 25) ?hr ?_; (case hd => rfl); (case hg => rfl); (case hr => first | (go_simp; done) | (go_simp; rfl)); intro gb264 hg w35 hbox hb; have BK264 := Aside0.mk (hbox); have GW264 := tge HB hg; have GE264 := tge HB hg; replace HB := tBs HB hb; have NB260_264 := tlt BK260 hg; have NB264_260 := tgt BK260 hg; replace BK260 := tBb BK260 hb; have NB261_264 := tlt BK261 hg; have NB264_261 := tgt BK261 hg; replace BK261 := tBb BK261 hb; have NB262_264 := tlt BK262 hg; have NB264_262 := tgt BK262 hg; replace BK262 := tBb BK262 hb; clear hb hbox hg; have hnb36 := NB264_260.out; have hnc36 := NB260_264.out; have hnb37 := NB264_261.out; have hnc37 := NB261_264.out; have hnb38 := NB264_262.out; have hnc38 := NB262_264.out; obtain ⟨hcz39_0, hcz39_1, hcz39_2, hcz39_3, hcz39_4, hcz39_5, hfz39_0, hfz39_1, hfz39_2, hfz39_3, hfz39_4, hfz39_5⟩ := cells6 BK264.out) | ((with_reducible refine gate_dst (N := 8) rfl ?_); (try (refine gate_guard (by rfl) ?_; dsimp only)); refine box_event ?hg (N := 8) ?hd (cs := #[.bool false, .bool false, .int .i64 0, .int .i64 0, .int .i64 0, .slice none 0 0]) (t := 25) ?hr ?_; (case hd => rfl); (case hg => rfl); (case hr => first | (go_simp; done) | (go_simp; rfl)); intro gb265 hg w40 hbox hb; have BK265 := Aside0.mk (hbox); have GW265 := tge HB hg; have GE265 := tge HB hg; replace HB := tBs HB hb; have NB260_265 := tlt BK260 hg; have NB265_260 := tgt BK260 hg; replace BK260 := tBb BK260 hb; have NB261_265 := tlt BK261 hg; have NB265_261 := tgt BK261 hg; replace BK261 := tBb BK261 hb; have NB262_265 := tlt BK262 hg; have NB265_262 := tgt BK262 hg; replace BK262 := tBb BK262 hb; have NB264_265 := tlt BK264 hg; have NB265_264 := tgt BK264 hg; replace BK264 := tBp (o' := .cells #[.bool a0_0, .bool false, .int .i64 255, .int .i64 0, .int .i64 0, .slice none 0 0] 25 (0, 0)) BK264 hb; clear hb hbox hg; have hnb41 := NB265_260.out; have hnc41 := NB260_265.out; have hnb42 := NB265_261.out; have hnc42 := NB261_265.out; have hnb43 := NB265_262.out; have hnc43 := NB262_265.out; have hnb44 := NB265_264.out; have hnc44 := NB264_265.out; obtain ⟨hcz45_0, hcz45_1, hcz45_2, hcz45_3, hcz45_4, hcz45_5, hfz45_0, hfz45_1, hfz45_2, hfz45_3, hfz45_4, hfz45_5⟩ := cells6 BK265.out; obtain ⟨hcz46_0, hcz46_1, hcz46_2, hcz46_3, hcz46_4, hcz46_5, hfz46_0, hfz46_1, hfz46_2, hfz46_3, hfz46_4, hfz46_5⟩ := cells6 BK260.out))
    go_loopg [29] kj2 (fun kq v29 w' => ∃ (x29_2 : Int) (x265005_2 : List (S41)) (x266005_2 : List (S41)) (u265005 : Value) (u266005 : Value), v29 = .int .i64 x29_2 ∧ Aside0 (impl_Batch_cut.l0 kq a1 l0_5 (l0_5.length : Int) x29_2 a0_0 false 255 0 0 x265005_2 a0_0 false 255 0 0 x266005_2 = some (r1, r2, r3, r4, r5, r6, r7, r8, r9, r10, r11, r12, r13)) ∧ Aside0 (kq ≤ kj2) ∧ Aside0 (Kd.S k41 41 w' w.heap.size (fun k_ => some k_ ≠ (u266005 : Value).ownBlock) u265005 x265005_2) ∧ Aside0 (Kd.S k41 41 w' w.heap.size (fun k_ => some k_ ≠ (u265005 : Value).ownBlock) u266005 x266005_2) ∧ Aside0 (w'.heap[gb260]? = some (.cells #[.bool a0_0, .bool a0_1, .int .i64 a0_2, .int .i64 a0_3, .int .i64 a0_4, (.slice A0_5 l0_5.length c0_5)] 25 (0, 0))) ∧ Aside0 (w'.heap[gb261]? = some (.cells #[.bool false, .bool false, .int .i64 0, .int .i64 0, .int .i64 0, (.slice none 0 0)] 25 (0, 0))) ∧ Aside0 (w'.heap[gb262]? = some (.cells #[.bool false, .bool false, .int .i64 0, .int .i64 0, .int .i64 0, (.slice none 0 0)] 25 (0, 0))) ∧ Aside0 (w'.heap[gb264]? = some (.cells #[.bool a0_0, .bool false, .int .i64 255, .int .i64 0, .int .i64 0, u265005] 25 (0, 0))) ∧ Aside0 (w'.heap[gb265]? = some (.cells #[.bool a0_0, .bool false, .int .i64 255, .int .i64 0, .int .i64 0, u266005] 25 (0, 0))) ∧ Aside0 (Below w.heap.size w w'))
    case atStart => exact ⟨(0), (([] : List (S41))), (([] : List (S41))), (.slice none 0 0), (.slice none 0 0), tr, H', ⟨Nat.le_refl _⟩, ⟨by first | exact Kd.S_nil _ _ _ _ _ | exact Kd.N_nil _ _ _ _ _ | exact Kd.V_nil _ _ _ _ _ | exact Kd.Q_nil _ _ _ _ _ | exact Kd.R_nil _ _ _ _ _⟩, ⟨by first | exact Kd.S_nil _ _ _ _ _ | exact Kd.N_nil _ _ _ _ _ | exact Kd.V_nil _ _ _ _ _ | exact Kd.Q_nil _ _ _ _ _ | exact Kd.R_nil _ _ _ _ _⟩, ⟨tH BK260.out⟩, ⟨tH BK261.out⟩, ⟨tH BK262.out⟩, ⟨tH BK264.out⟩, ⟨tP BK265.out⟩, ⟨zb⟩⟩
    case round =>
     clear H'
     try clear c18; try clear hcz34_0; try clear hcz34_1; try clear hcz34_2; try clear hcz34_3; try clear hcz34_4; try clear hcz34_5; try clear hcz39_0; try clear hcz39_1; try clear hcz39_2; try clear hcz39_3; try clear hcz39_4; try clear hcz39_5; try clear hcz45_0; try clear hcz45_1; try clear hcz45_2; try clear hcz45_3; try clear hcz45_4; try clear hcz45_5; try clear hcz46_0; try clear hcz46_1; try clear hcz46_2; try clear hcz46_3; try clear hcz46_4; try clear hcz46_5; try clear hfz34_0; try clear hfz34_1; try clear hfz34_2; try clear hfz34_3; try clear hfz34_4; try clear hfz34_5; try clear hfz39_0; try clear hfz39_1; try clear hfz39_2; try clear hfz39_3; try clear hfz39_4; try clear hfz39_5; try clear hfz45_0; try clear hfz45_1; try clear hfz45_2; try clear hfz45_3; try clear hfz45_4; try clear hfz45_5; try clear hfz46_0; try clear hfz46_1; try clear hfz46_2; try clear hfz46_3; try clear hfz46_4; try clear hfz46_5
     obtain ⟨x29_2, x265005_2, x266005_2, u265005, u266005, rfl, HA, HK2, HO_265005, HO_266005, BK260, BK261, BK262, BK264, BK265, HB⟩ := hrel
     cases gk with
     | zero => exact absurd HA.out (by simp [impl_Batch_cut.l0])
     | succ k2 =>
      have H := HA.out
      clear HA
      simp only [impl_Batch_cut.l0] at H
      by_cases c47 : x29_2 < (l0_5.length : Int)
      ·rw [if_pos c47] at H
       have c47b0 : decide (x29_2 < (l0_5.length : Int)) = true := decide_eq_true c47
       clear c47
       by_cases c48 : 0 ≤ x29_2
       ·rw [if_pos c48] at H
        have c48b0 : decide (0 ≤ x29_2) = true := decide_eq_true c48
        clear c48
        by_cases c49 : x29_2 < (l0_5.length : Int)
        ·rw [if_pos c49] at H
         have c49b0 : decide (x29_2 < (l0_5.length : Int)) = true := decide_eq_true c49
         clear c49
         by_cases c50 : ((rd_T41 l0_5 x29_2).f0) < a1
         ·rw [if_pos c50] at H
          have c50b0 : decide (((rd_T41 l0_5 x29_2).f0) < a1) = true := decide_eq_true c50
          clear c50
          replace H := tbe H
          obtain ⟨⟨t268, t269, t270, t271, t274, t275⟩, A51, H⟩ := H
          dsimp only at H
          by_cases c52 : x265005_2.length < 1759218604441
          ·rw [if_pos c52] at H
           have LMc52 := Aside0.mk c52
           clear c52
           obtain ⟨y278, hy278⟩ : ∃ y_ : List (S41), y_ = (x265005_2 ++ [(⟨t268, t269, t270, t271, t274, t275⟩ : S41)]) := ⟨_, rfl⟩
           replace H : (impl_Batch_cut.l0 k2 a1 l0_5 (l0_5.length : Int) (wrap64 (x29_2 + 1)) a0_0 false 255 0 0 y278 a0_0 false 255 0 0 x266005_2) = some (r1, r2, r3, r4, r5, r6, r7, r8, r9, r10, r11, r12, r13) := by first | (rw [hy278]; with_reducible exact H) | (have H2_ := (Option.bind_some _ _).symm.trans H; rw [hy278]; with_reducible exact H2_) | (have H2_ := (Option.bind_some _ _).symm.trans H; with_reducible exact H2_) | with_reducible exact H | (rw [hy278]; exact H) | exact H
           have Ny278 := Aside0.mk hy278
           clear hy278
           have H' := Aside0.mk H
           clear H
           have p266 : 0 ≤ (x29_2 : Int) := td
           have q266 : x29_2 < (l0_5.length : Int) := td
           obtain ⟨ad266, A266_3, c266_3, A266_5, c266_5, e266, hx266_0, hx266_1, hx266_2, hx266_3, hx266_4, hx266_5, hl266_3, hi266_3, hl266_5, hi266_5⟩ := at_T41 HR0_5.out x29_2 p266 q266
           cases e266
           replace hx266_0 := tcl HB hx266_0
           replace hx266_1 := tcl HB hx266_1
           replace hx266_2 := tcl HB hx266_2
           replace hx266_3 := tcl HB hx266_3
           replace hx266_4 := tcl HB hx266_4
           replace hx266_5 := tcl HB hx266_5
           have HR266_3 := Aside0.mk hi266_3
           have HC266_3 := Aside0.mk hl266_3
           clear hi266_3 hl266_3
           have HR266_5 := Aside0.mk hi266_5
           have HC266_5 := Aside0.mk hl266_5
           clear hi266_5 hl266_5
           replace p266 := eq_true p266
           replace q266 := eq_true q266
           try go_wp2_with (first | ((with_reducible refine gate_dst (N := 64) rfl ?_); refine glob_ rfl (v := .iface 106 (.pointer (some (ErrA.errA 1)))) (g := 0) ?hr ?hc ?_; (case hc => exact ErrOk.g0 (ErrOk.below HE.out zb) (by decide)); (case hr => intro W_ hc_; go_simp)) | ((with_reducible refine gate_dst (N := 21) rfl ?_); refine glob_ rfl (v := .iface 106 (.pointer (some (ErrA.errA 1)))) (g := 0) ?hr ?hc ?_; (case hc => exact ErrOk.g0 (ErrOk.below HE.out zb) (by decide)); (case hr => intro W_ hc_; go_simp)) | ((with_reducible refine gate_dst (N := 10) rfl ?_); (try (refine gate_guard (by rfl) ?_; dsimp only)); refine box_event ?hg (N := 10) ?hd (cs := #[.int .i64 0, .int .i64 0, .bool false, .slice none 0 0, .bool false, .slice none 0 0]) (t := 41) ?hr ?_; (case hd => rfl); (case hg => rfl); (case hr => first | (go_simp; done) | (go_simp; rfl)); intro gb267 hg w53 hbox hb; replace HO_265005 := tSB HO_265005 hg hb; replace HO_266005 := tSB HO_266005 hg hb; have BK267 := Aside0.mk (hbox); have GW267 := tge HB hg; have GE267 := tge HB hg; replace HB := tBs HB hb; have NB260_267 := tlt BK260 hg; have NB267_260 := tgt BK260 hg; replace BK260 := tBb BK260 hb; have NB261_267 := tlt BK261 hg; have NB267_261 := tgt BK261 hg; replace BK261 := tBb BK261 hb; have NB262_267 := tlt BK262 hg; have NB267_262 := tgt BK262 hg; replace BK262 := tBb BK262 hb; have NB264_267 := tlt BK264 hg; have NB267_264 := tgt BK264 hg; replace BK264 := tBb BK264 hb; have NB265_267 := tlt BK265 hg; have NB267_265 := tgt BK265 hg; replace BK265 := tBb BK265 hb; clear hb hbox hg; have hnb54 := NB267_260.out; have hnc54 := NB260_267.out; have hnb55 := NB267_261.out; have hnc55 := NB261_267.out; have hnb56 := NB267_262.out; have hnc56 := NB262_267.out; have hnb57 := NB267_264.out; have hnc57 := NB264_267.out; have hnb58 := NB267_265.out; have hnc58 := NB265_267.out; obtain ⟨hcz59_0, hcz59_1, hcz59_2, hcz59_3, hcz59_4, hcz59_5, hfz59_0, hfz59_1, hfz59_2, hfz59_3, hfz59_4, hfz59_5⟩ := cells6 BK267.out))
           have n0_ : Aside0 (Kd.S k41 41 ((((((w53.setCell ⟨gb267, 0, none⟩ (.int .i64 ((rd_T41 l0_5 x29_2).f0))).setCell ⟨gb267, 1, none⟩ (.int .i64 ((rd_T41 l0_5 x29_2).f1))).setCell ⟨gb267, 2, none⟩ (.bool ((rd_T41 l0_5 x29_2).f2))).setCell ⟨gb267, 3, none⟩ (.slice A266_3 ((rd_T41 l0_5 x29_2).f3).length c266_3)).setCell ⟨gb267, 4, none⟩ (.bool ((rd_T41 l0_5 x29_2).f4))).setCell ⟨gb267, 5, none⟩ (.slice A266_5 ((rd_T41 l0_5 x29_2).f5).length c266_5)) w.heap.size (fun k_ => some k_ ≠ (u266005 : Value).ownBlock ∧ k_ ≠ gb267) u265005 x265005_2) := ⟨tSm HO_265005.out⟩
           have n1_ : Aside0 (Kd.S k41 41 ((((((w53.setCell ⟨gb267, 0, none⟩ (.int .i64 ((rd_T41 l0_5 x29_2).f0))).setCell ⟨gb267, 1, none⟩ (.int .i64 ((rd_T41 l0_5 x29_2).f1))).setCell ⟨gb267, 2, none⟩ (.bool ((rd_T41 l0_5 x29_2).f2))).setCell ⟨gb267, 3, none⟩ (.slice A266_3 ((rd_T41 l0_5 x29_2).f3).length c266_3)).setCell ⟨gb267, 4, none⟩ (.bool ((rd_T41 l0_5 x29_2).f4))).setCell ⟨gb267, 5, none⟩ (.slice A266_5 ((rd_T41 l0_5 x29_2).f5).length c266_5)) w.heap.size (fun k_ => some k_ ≠ (u265005 : Value).ownBlock ∧ k_ ≠ gb267) u266005 x266005_2) := ⟨tSm HO_266005.out⟩
           have n2_ : Aside0 (((((((w53.setCell ⟨gb267, 0, none⟩ (.int .i64 ((rd_T41 l0_5 x29_2).f0))).setCell ⟨gb267, 1, none⟩ (.int .i64 ((rd_T41 l0_5 x29_2).f1))).setCell ⟨gb267, 2, none⟩ (.bool ((rd_T41 l0_5 x29_2).f2))).setCell ⟨gb267, 3, none⟩ (.slice A266_3 ((rd_T41 l0_5 x29_2).f3).length c266_3)).setCell ⟨gb267, 4, none⟩ (.bool ((rd_T41 l0_5 x29_2).f4))).setCell ⟨gb267, 5, none⟩ (.slice A266_5 ((rd_T41 l0_5 x29_2).f5).length c266_5)).heap[gb260]? = some (.cells #[.bool a0_0, .bool a0_1, .int .i64 a0_2, .int .i64 a0_3, .int .i64 a0_4, .slice (some ad266) l0_5.length c0_5] 25 (0, 0))) := ⟨tH BK260.out⟩
           have n3_ : Aside0 (((((((w53.setCell ⟨gb267, 0, none⟩ (.int .i64 ((rd_T41 l0_5 x29_2).f0))).setCell ⟨gb267, 1, none⟩ (.int .i64 ((rd_T41 l0_5 x29_2).f1))).setCell ⟨gb267, 2, none⟩ (.bool ((rd_T41 l0_5 x29_2).f2))).setCell ⟨gb267, 3, none⟩ (.slice A266_3 ((rd_T41 l0_5 x29_2).f3).length c266_3)).setCell ⟨gb267, 4, none⟩ (.bool ((rd_T41 l0_5 x29_2).f4))).setCell ⟨gb267, 5, none⟩ (.slice A266_5 ((rd_T41 l0_5 x29_2).f5).length c266_5)).heap[gb261]? = some (.cells #[.bool false, .bool false, .int .i64 0, .int .i64 0, .int .i64 0, .slice none 0 0] 25 (0, 0))) := ⟨tH BK261.out⟩
           have n4_ : Aside0 (((((((w53.setCell ⟨gb267, 0, none⟩ (.int .i64 ((rd_T41 l0_5 x29_2).f0))).setCell ⟨gb267, 1, none⟩ (.int .i64 ((rd_T41 l0_5 x29_2).f1))).setCell ⟨gb267, 2, none⟩ (.bool ((rd_T41 l0_5 x29_2).f2))).setCell ⟨gb267, 3, none⟩ (.slice A266_3 ((rd_T41 l0_5 x29_2).f3).length c266_3)).setCell ⟨gb267, 4, none⟩ (.bool ((rd_T41 l0_5 x29_2).f4))).setCell ⟨gb267, 5, none⟩ (.slice A266_5 ((rd_T41 l0_5 x29_2).f5).length c266_5)).heap[gb262]? = some (.cells #[.bool false, .bool false, .int .i64 0, .int .i64 0, .int .i64 0, .slice none 0 0] 25 (0, 0))) := ⟨tH BK262.out⟩
           have n5_ : Aside0 (((((((w53.setCell ⟨gb267, 0, none⟩ (.int .i64 ((rd_T41 l0_5 x29_2).f0))).setCell ⟨gb267, 1, none⟩ (.int .i64 ((rd_T41 l0_5 x29_2).f1))).setCell ⟨gb267, 2, none⟩ (.bool ((rd_T41 l0_5 x29_2).f2))).setCell ⟨gb267, 3, none⟩ (.slice A266_3 ((rd_T41 l0_5 x29_2).f3).length c266_3)).setCell ⟨gb267, 4, none⟩ (.bool ((rd_T41 l0_5 x29_2).f4))).setCell ⟨gb267, 5, none⟩ (.slice A266_5 ((rd_T41 l0_5 x29_2).f5).length c266_5)).heap[gb264]? = some (.cells #[.bool a0_0, .bool false, .int .i64 255, .int .i64 0, .int .i64 0, u265005] 25 (0, 0))) := ⟨tH BK264.out⟩
           have n6_ : Aside0 (((((((w53.setCell ⟨gb267, 0, none⟩ (.int .i64 ((rd_T41 l0_5 x29_2).f0))).setCell ⟨gb267, 1, none⟩ (.int .i64 ((rd_T41 l0_5 x29_2).f1))).setCell ⟨gb267, 2, none⟩ (.bool ((rd_T41 l0_5 x29_2).f2))).setCell ⟨gb267, 3, none⟩ (.slice A266_3 ((rd_T41 l0_5 x29_2).f3).length c266_3)).setCell ⟨gb267, 4, none⟩ (.bool ((rd_T41 l0_5 x29_2).f4))).setCell ⟨gb267, 5, none⟩ (.slice A266_5 ((rd_T41 l0_5 x29_2).f5).length c266_5)).heap[gb265]? = some (.cells #[.bool a0_0, .bool false, .int .i64 255, .int .i64 0, .int .i64 0, u266005] 25 (0, 0))) := ⟨tH BK265.out⟩
           have n7_ : Aside0 (((((((w53.setCell ⟨gb267, 0, none⟩ (.int .i64 ((rd_T41 l0_5 x29_2).f0))).setCell ⟨gb267, 1, none⟩ (.int .i64 ((rd_T41 l0_5 x29_2).f1))).setCell ⟨gb267, 2, none⟩ (.bool ((rd_T41 l0_5 x29_2).f2))).setCell ⟨gb267, 3, none⟩ (.slice A266_3 ((rd_T41 l0_5 x29_2).f3).length c266_3)).setCell ⟨gb267, 4, none⟩ (.bool ((rd_T41 l0_5 x29_2).f4))).setCell ⟨gb267, 5, none⟩ (.slice A266_5 ((rd_T41 l0_5 x29_2).f5).length c266_5)).heap[gb267]? = some (.cells #[.int .i64 ((rd_T41 l0_5 x29_2).f0), .int .i64 ((rd_T41 l0_5 x29_2).f1), .bool ((rd_T41 l0_5 x29_2).f2), .slice A266_3 ((rd_T41 l0_5 x29_2).f3).length c266_3, .bool ((rd_T41 l0_5 x29_2).f4), .slice A266_5 ((rd_T41 l0_5 x29_2).f5).length c266_5] 41 (0, 0))) := ⟨tP BK267.out⟩
           have n8_ : Aside0 (Below w.heap.size w ((((((w53.setCell ⟨gb267, 0, none⟩ (.int .i64 ((rd_T41 l0_5 x29_2).f0))).setCell ⟨gb267, 1, none⟩ (.int .i64 ((rd_T41 l0_5 x29_2).f1))).setCell ⟨gb267, 2, none⟩ (.bool ((rd_T41 l0_5 x29_2).f2))).setCell ⟨gb267, 3, none⟩ (.slice A266_3 ((rd_T41 l0_5 x29_2).f3).length c266_3)).setCell ⟨gb267, 4, none⟩ (.bool ((rd_T41 l0_5 x29_2).f4))).setCell ⟨gb267, 5, none⟩ (.slice A266_5 ((rd_T41 l0_5 x29_2).f5).length c266_5))) := ⟨zb⟩
           (try clear HO_265005)
           (try clear HO_266005)
           (try clear BK260)
           (try clear BK261)
           (try clear BK262)
           (try clear BK264)
           (try clear BK265)
           (try clear BK267)
           (try clear HB)
           generalize ((((((w53.setCell ⟨gb267, 0, none⟩ (.int .i64 ((rd_T41 l0_5 x29_2).f0))).setCell ⟨gb267, 1, none⟩ (.int .i64 ((rd_T41 l0_5 x29_2).f1))).setCell ⟨gb267, 2, none⟩ (.bool ((rd_T41 l0_5 x29_2).f2))).setCell ⟨gb267, 3, none⟩ (.slice A266_3 ((rd_T41 l0_5 x29_2).f3).length c266_3)).setCell ⟨gb267, 4, none⟩ (.bool ((rd_T41 l0_5 x29_2).f4))).setCell ⟨gb267, 5, none⟩ (.slice A266_5 ((rd_T41 l0_5 x29_2).f5).length c266_5)) = w60 at n0_ n1_ n2_ n3_ n4_ n5_ n6_ n7_ n8_ ⊢
           have HO_265005 := n0_
           have HO_266005 := n1_
           have BK260 := n2_
           have BK261 := n3_
           have BK262 := n4_
           have BK264 := n5_
           have BK265 := n6_
           have BK267 := n7_
           have HB := n8_
           clear n0_ n1_ n2_ n3_ n4_ n5_ n6_ n7_ n8_
           replace HO_265005 := Aside0.mk (Kd.S_drew HO_265005.out)
           replace HO_266005 := Aside0.mk (Kd.S_drew HO_266005.out)
           replace BK260 := Aside0.mk (blk_drew BK260.out)
           replace BK261 := Aside0.mk (blk_drew BK261.out)
           replace BK262 := Aside0.mk (blk_drew BK262.out)
           replace BK264 := Aside0.mk (blk_drew BK264.out)
           replace BK265 := Aside0.mk (blk_drew BK265.out)
           replace BK267 := Aside0.mk (blk_drew BK267.out)
           replace HB := Aside0.mk (below_drew1 HB.out)
           refine start_ (n := 8) (S := fun w' => w'.cell? ⟨gb264, 0, none⟩ = some (.bool a0_0) ∧ w'.cell? ⟨gb264, 1, none⟩ = some (.bool false) ∧ w'.cell? ⟨gb264, 2, none⟩ = some (.int .i64 255) ∧ w'.cell? ⟨gb264, 3, none⟩ = some (.int .i64 0) ∧ w'.cell? ⟨gb264, 4, none⟩ = some (.int .i64 0) ∧ w'.cell? ⟨gb264, 5, none⟩ = some (u265005) ∧ w'.cell? ⟨gb267, 0, none⟩ = some (.int .i64 ((rd_T41 l0_5 x29_2).f0)) ∧ w'.cell? ⟨gb267, 1, none⟩ = some (.int .i64 ((rd_T41 l0_5 x29_2).f1)) ∧ w'.cell? ⟨gb267, 2, none⟩ = some (.bool ((rd_T41 l0_5 x29_2).f2)) ∧ w'.cell? ⟨gb267, 3, none⟩ = some (.slice A266_3 ((rd_T41 l0_5 x29_2).f3).length c266_3) ∧ w'.cell? ⟨gb267, 4, none⟩ = some (.bool ((rd_T41 l0_5 x29_2).f4)) ∧ w'.cell? ⟨gb267, 5, none⟩ = some (.slice A266_5 ((rd_T41 l0_5 x29_2).f5).length c266_5)) (ds := [7]) #[false, false, false, false, false, false, false, false] (by kernel_rfl) rfl rfl ⟨(blk_cell BK264.out 0).trans rfl, (blk_cell BK264.out 1).trans rfl, (blk_cell BK264.out 2).trans rfl, (blk_cell BK264.out 3).trans rfl, (blk_cell BK264.out 4).trans rfl, (blk_cell BK264.out 5).trans rfl, (blk_cell BK267.out 0).trans rfl, (blk_cell BK267.out 1).trans rfl, (blk_cell BK267.out 2).trans rfl, (blk_cell BK267.out 3).trans rfl, (blk_cell BK267.out 4).trans rfl, (blk_cell BK267.out 5).trans rfl⟩ (fun hHeld => ?_); refine with_tabW impl_Batch_cut.tab9 impl_Batch_cut.bits9 (fun HT_ HW_ => ?_)
           generalize w60.drew = w61 at HO_265005 HO_266005 BK260 BK261 BK262 BK264 BK265 BK267 HB hHeld ⊢
           refine tpu 0 (some 37) #[true, false, false, false, false, false, false, false] ?_
           refine tta 1 (some 38) #[true, true, false, false, false, false, false, false] hHeld ?_ (hy := by rintro w' ⟨s0, s1, s2, s3, s4, s5, s6, s7, s8, s9, s10, s11⟩; go_simp; with_reducible rfl)
           refine tta 2 (some 39) #[true, true, true, false, false, false, false, false] hHeld ?_ (hy := by rintro w' ⟨s0, s1, s2, s3, s4, s5, s6, s7, s8, s9, s10, s11⟩; go_simp; with_reducible rfl)
           refine one_ (i := 3) (N := some 40) #[true, true, true, true, false, false, false, false] rfl rfl (one_of HT_.out (by kernel_rfl)) (by decide) (fun K hK => ?_)
           refine goes_ Tryd.func43 (by kernel_rfl) rfl #[.agg #[.int .i64 ((rd_T41 l0_5 x29_2).f0), .int .i64 ((rd_T41 l0_5 x29_2).f1), .bool ((rd_T41 l0_5 x29_2).f2), .slice A266_3 ((rd_T41 l0_5 x29_2).f3).length c266_3, .bool ((rd_T41 l0_5 x29_2).f4), .slice A266_5 ((rd_T41 l0_5 x29_2).f5).length c266_5]] (by rfl) rfl rfl tq ?_
           with_reducible refine (impl_Record_copyOf.calls ((rd_T41 l0_5 x29_2).f0) ((rd_T41 l0_5 x29_2).f1) ((rd_T41 l0_5 x29_2).f2) _ _ ((rd_T41 l0_5 x29_2).f3) ((rd_T41 l0_5 x29_2).f4) _ _ ((rd_T41 l0_5 x29_2).f5) t268 t269 t270 t271 t274 t275 _ ?side1 ?side2 ?side3 ?side4 A51.out).mono ?_
           (case side1 => exact tC (Kd.C_below HR266_3.out HB.out))
           (case side2 => exact HC266_3.out)
           (case side3 => exact tC (Kd.C_below HR266_5.out HB.out))
           (case side4 => exact HC266_5.out)
           rintro e w62 ⟨v272, v276, rfl, ho0, ho1, hb⟩
           refine ⟨_, rfl, ?_⟩
           replace HO_265005 := Aside0.mk (Kd.S_mono (Kd.S_told (Kd.S_told (Kd.S_old (tS HO_265005.out) hb) (Kd.R_base ho0)) (Kd.R_base ho1)) (fun _ h_ => h_.1))
           replace HO_266005 := Aside0.mk (Kd.S_mono (Kd.S_told (Kd.S_told (Kd.S_old (tS HO_266005.out) hb) (Kd.R_base ho0)) (Kd.R_base ho1)) (fun _ h_ => h_.1))
           have HO273 := tRl ho0 HB
           have HO277 := tRl ho1 HB
           replace BK260 := tBb BK260 hb
           replace BK261 := tBb BK261 hb
           replace BK262 := tBb BK262 hb
           replace BK264 := tBb BK264 hb
           replace BK265 := tBb BK265 hb
           replace BK267 := tBb BK267 hb
           replace HB := tBs HB hb
           (try clear hb)
           (try clear hb2)
           (try clear hk)
           (try clear hi)
           (try clear ho0)
           (try clear ho1)
           obtain ⟨Ao64, co64, eo64⟩ := Kd.R_slice HO273.out
           (first | subst eo64 | (injection eo64 with f1_ f2_ f3_; have f4_ := f1_.symm; have f5_ := f3_.symm; clear f1_ f2_ f3_; subst f4_; subst f5_))
           obtain ⟨Ao65, co65, eo65⟩ := Kd.R_slice HO277.out
           (first | subst eo65 | (injection eo65 with f1_ f2_ f3_; have f4_ := f1_.symm; have f5_ := f3_.symm; clear f1_ f2_ f3_; subst f4_; subst f5_))
           refine hK.out _ _ ⟨(blk_cell BK264.out 0).trans rfl, (blk_cell BK264.out 1).trans rfl, (blk_cell BK264.out 2).trans rfl, (blk_cell BK264.out 3).trans rfl, (blk_cell BK264.out 4).trans rfl, (blk_cell BK264.out 5).trans rfl, (blk_cell BK267.out 0).trans rfl, (blk_cell BK267.out 1).trans rfl, (blk_cell BK267.out 2).trans rfl, (blk_cell BK267.out 3).trans rfl, (blk_cell BK267.out 4).trans rfl, (blk_cell BK267.out 5).trans rfl⟩ (fun hHeld => ?_)
           clear hK K
           refine tnm (some 40) ?_
           refine one_ (i := 4) (N := some 41) #[true, true, true, true, true, false, false, false] rfl rfl (one_of HT_.out (by kernel_rfl)) (by decide) (fun K hK => ?_)
           refine value_ (w1 := ?_) (v := ?_) (by rfl) rfl ?_ ?_
           rotate_left 2
           ·go_simp
            constructor
            ·rfl
            ·rfl
           refine hK.out _ _ ⟨(blk_cell (blk_alloc BK264.out _) 0).trans rfl, (blk_cell (blk_alloc BK264.out _) 1).trans rfl, (blk_cell (blk_alloc BK264.out _) 2).trans rfl, (blk_cell (blk_alloc BK264.out _) 3).trans rfl, (blk_cell (blk_alloc BK264.out _) 4).trans rfl, (blk_cell (blk_alloc BK264.out _) 5).trans rfl, (blk_cell (blk_alloc BK267.out _) 0).trans rfl, (blk_cell (blk_alloc BK267.out _) 1).trans rfl, (blk_cell (blk_alloc BK267.out _) 2).trans rfl, (blk_cell (blk_alloc BK267.out _) 3).trans rfl, (blk_cell (blk_alloc BK267.out _) 4).trans rfl, (blk_cell (blk_alloc BK267.out _) 5).trans rfl⟩ (fun hHeld => ?_)
           clear hK K
           refine tnm (some 41) ?_
           refine one_ (i := 5) (N := some 42) #[true, true, true, true, true, true, false, false] rfl rfl (one_of HT_.out (by kernel_rfl)) (by decide) (fun K hK => ?_)
           refine Kd.S_append_step k41 (w0 := w) w.heap.size (by rfl) (.tmp 38) (.tmp 41) 23 41 (.agg #[(.int .i64 0), (.int .i64 0), (.bool false), (.slice none 0 0), (.bool false), (.slice none 0 0)]) 80 rfl Tryd.underlying23 info41 rfl (by decide) (by omega) u265005 x265005_2 (⟨t268, t269, t270, t271, t274, t275⟩ : S41) [.int .i64 t268, .int .i64 t269, .bool t270, .slice Ao64 t271.length co64, .bool t274, .slice Ao65 t275.length co65] (fun k_ => some k_ ≠ (u266005 : Value).ownBlock ∧ k_ ≠ gb267) (fun k_ => some k_ = (.slice Ao64 t271.length co64 : Value).ownBlock ∨ some k_ = (.slice Ao65 t275.length co65 : Value).ownBlock) rfl rfl ?aP (fun k_ hk_ => hk_.elim (fun h_ => ((Kd.R_mono (ok' := fun k_ => ((fun k_ => some k_ ≠ (u266005 : Value).ownBlock ∧ k_ ≠ gb267)) k_ ∧ some k_ ≠ (u265005 : Value).ownBlock) (Kd.R_types (Kd.R_apart' (Kd.R_apart' (HO273.out) (Kd.S_typed HO_266005.out) (by decide)) (Kd.S_typed HO_265005.out) (by decide)) BK267.out (by decide)) (fun k_ hk => ⟨⟨hk.1.1.2, hk.2⟩, hk.1.2⟩))).1 k_ h_.symm) (fun h_ => ((Kd.R_mono (ok' := fun k_ => ((fun k_ => some k_ ≠ (u266005 : Value).ownBlock ∧ k_ ≠ gb267)) k_ ∧ some k_ ≠ (u265005 : Value).ownBlock) (Kd.R_types (Kd.R_apart' (Kd.R_apart' (HO277.out) (Kd.S_typed HO_266005.out) (by decide)) (Kd.S_typed HO_265005.out) (by decide)) BK267.out (by decide)) (fun k_ hk => ⟨⟨hk.1.1.2, hk.2⟩, hk.1.2⟩))).1 k_ h_.symm)) ?aF ?aO ?aB ?aS ?aL ?_
           (case aP => exact k41_mkM _ _ _ (⟨t268, t269, t270, t271, t274, t275⟩ : S41) (Kd.R_mono (Kd.R_tight rfl (Kd.R_mono (ok' := fun k_ => ((fun k_ => some k_ ≠ (u266005 : Value).ownBlock ∧ k_ ≠ gb267)) k_ ∧ some k_ ≠ (u265005 : Value).ownBlock) (Kd.R_types (Kd.R_apart' (Kd.R_apart' (HO273.out) (Kd.S_typed HO_266005.out) (by decide)) (Kd.S_typed HO_265005.out) (by decide)) BK267.out (by decide)) (fun k_ hk => ⟨⟨hk.1.1.2, hk.2⟩, hk.1.2⟩))) (fun _ h_ => Or.inl h_)) (Kd.R_mono (Kd.R_tight rfl (Kd.R_mono (ok' := fun k_ => ((fun k_ => some k_ ≠ (u266005 : Value).ownBlock ∧ k_ ≠ gb267)) k_ ∧ some k_ ≠ (u265005 : Value).ownBlock) (Kd.R_types (Kd.R_apart' (Kd.R_apart' (HO277.out) (Kd.S_typed HO_266005.out) (by decide)) (Kd.S_typed HO_265005.out) (by decide)) BK267.out (by decide)) (fun k_ hk => ⟨⟨hk.1.1.2, hk.2⟩, hk.1.2⟩))) (fun _ h_ => Or.inr (h_))))
           (case aB => exact zb)
           (case aF => exact (fun k_ hk => ⟨Kd.fresh' (Kd.S_lt (tS HO_266005.out)) k_ hk, tfB BK267 k_ hk⟩))
           (case aO => exact (tSm HO_265005.out))
           (case aS => exact (below_size zb))
           (case aL => have := LMc52.out; omega)
           intro v279 w63 ho hb hg hat
           rw [← Ny278.out] at ho
           replace HO_266005 := Aside0.mk (Kd.S_after (ok := (fun k_ => some k_ ≠ (.slice Ao64 t271.length co64 : Value).ownBlock ∧ some k_ ≠ (.slice Ao65 t275.length co65 : Value).ownBlock ∧ k_ ≠ gb267)) (tSm HO_266005.out) hg hat)
           replace BK260 := Aside0.mk (blk_grown (tH BK260.out) hg (Kd.S_ne HO_265005.out BK260.out (by decide)))
           replace BK261 := Aside0.mk (blk_grown (tH BK261.out) hg (Kd.S_ne HO_265005.out BK261.out (by decide)))
           replace BK262 := Aside0.mk (blk_grown (tH BK262.out) hg (Kd.S_ne HO_265005.out BK262.out (by decide)))
           replace BK264 := Aside0.mk (blk_grown (tH BK264.out) hg (Kd.S_ne HO_265005.out BK264.out (by decide)))
           replace BK265 := Aside0.mk (blk_grown (tH BK265.out) hg (Kd.S_ne HO_265005.out BK265.out (by decide)))
           replace BK267 := Aside0.mk (blk_grown (tH BK267.out) hg (Kd.S_away HO_265005.out (fun _ hk => hk.1.1.2)))
           replace HB := Aside0.mk (hb)
           have HO280 := Aside0.mk (ho)
           clear HO_265005 HO273 HO277
           clear ho hb hg hat
           obtain ⟨Ao66, co66, eo66⟩ := Kd.S_slice HO280.out
           (first | subst eo66 | (injection eo66 with f1_ f2_ f3_; have f4_ := f1_.symm; have f5_ := f3_.symm; clear f1_ f2_ f3_; subst f4_; subst f5_))
           refine hK.out _ _ ⟨(blk_cell BK264.out 0).trans rfl, (blk_cell BK264.out 1).trans rfl, (blk_cell BK264.out 2).trans rfl, (blk_cell BK264.out 3).trans rfl, (blk_cell BK264.out 4).trans rfl, (blk_cell BK264.out 5).trans rfl, (blk_cell BK267.out 0).trans rfl, (blk_cell BK267.out 1).trans rfl, (blk_cell BK267.out 2).trans rfl, (blk_cell BK267.out 3).trans rfl, (blk_cell BK267.out 4).trans rfl, (blk_cell BK267.out 5).trans rfl⟩ (fun hHeld => ?_)
           clear hK K
           refine tnm (some 42) ?_
           refine tpu 6 (some 43) #[true, true, true, true, true, true, true, false] ?_
           refine last_ (i := 7) (N := none) #[true, true, true, true, true, true, true, true] rfl rfl (one_of HT_.out (by kernel_rfl)) (by decide) (fun K hK => ?_)
           have hs67 : w63.cell? ⟨gb264, 5, none⟩ = some (u265005) := (blk_cell BK264.out 5).trans rfl
           have hfs67 := blk_frozen BK264.out 5
           have hns67_0 := NB260_264.out
           have hns67_1 := NB261_264.out
           have hns67_2 := NB262_264.out
           have hns67_4 := NB265_264.out
           have hns67_5 := NB267_264.out
           have hms67_0 := NB264_260.out
           have hms67_1 := NB264_261.out
           have hms67_2 := NB264_262.out
           have hms67_4 := NB264_265.out
           have hms67_5 := NB264_267.out
           refine tsk ?_
           refine hK.out _ _ ?_
           clear hK K
           refine done_ (done_of HT_.out (by kernel_rfl)) ?_
           try go_wp2
           go_roundg k2
           case measure => have := HJ2.out; have := HK2.out; omega
           case rel => exact ⟨(wrap64 (x29_2 + 1)), (y278), (x266005_2), (.slice Ao66 y278.length co66), (u266005), tr, H', ⟨by have := HJ2.out; have := HK2.out; omega⟩, ⟨tSm (Kd.S_types HO280.out BK264.out (by decide))⟩, ⟨tSm (Kd.S_types HO_266005.out BK264.out (by decide))⟩, ⟨tH BK260.out⟩, ⟨tH BK261.out⟩, ⟨tH BK262.out⟩, ⟨tP BK264.out⟩, ⟨tH BK265.out⟩, ⟨zb⟩⟩
          ·rw [if_neg c52] at H
           exact absurd H (by simp)
         ·rw [if_neg c50] at H
          have c50b0 : decide (((rd_T41 l0_5 x29_2).f0) < a1) = false := decide_eq_false c50
          clear c50
          replace H := tbe H
          obtain ⟨⟨t281, t282, t283, t284, t287, t288⟩, A68, H⟩ := H
          dsimp only at H
          by_cases c69 : x266005_2.length < 1759218604441
          ·rw [if_pos c69] at H
           have LMc69 := Aside0.mk c69
           clear c69
           obtain ⟨y291, hy291⟩ : ∃ y_ : List (S41), y_ = (x266005_2 ++ [(⟨t281, t282, t283, t284, t287, t288⟩ : S41)]) := ⟨_, rfl⟩
           replace H : (impl_Batch_cut.l0 k2 a1 l0_5 (l0_5.length : Int) (wrap64 (x29_2 + 1)) a0_0 false 255 0 0 x265005_2 a0_0 false 255 0 0 y291) = some (r1, r2, r3, r4, r5, r6, r7, r8, r9, r10, r11, r12, r13) := by first | (rw [hy291]; with_reducible exact H) | (have H2_ := (Option.bind_some _ _).symm.trans H; rw [hy291]; with_reducible exact H2_) | (have H2_ := (Option.bind_some _ _).symm.trans H; with_reducible exact H2_) | with_reducible exact H | (rw [hy291]; exact H) | exact H
           have Ny291 := Aside0.mk hy291
           clear hy291
           have H' := Aside0.mk H
           clear H
           have p266 : 0 ≤ (x29_2 : Int) := td
           have q266 : x29_2 < (l0_5.length : Int) := td
           obtain ⟨ad266, A266_3, c266_3, A266_5, c266_5, e266, hx266_0, hx266_1, hx266_2, hx266_3, hx266_4, hx266_5, hl266_3, hi266_3, hl266_5, hi266_5⟩ := at_T41 HR0_5.out x29_2 p266 q266
           cases e266
           replace hx266_0 := tcl HB hx266_0
           replace hx266_1 := tcl HB hx266_1
           replace hx266_2 := tcl HB hx266_2
           replace hx266_3 := tcl HB hx266_3
           replace hx266_4 := tcl HB hx266_4
           replace hx266_5 := tcl HB hx266_5
           have HR266_3 := Aside0.mk hi266_3
           have HC266_3 := Aside0.mk hl266_3
           clear hi266_3 hl266_3
           have HR266_5 := Aside0.mk hi266_5
           have HC266_5 := Aside0.mk hl266_5
           clear hi266_5 hl266_5
           replace p266 := eq_true p266
           replace q266 := eq_true q266
           try go_wp2_with (first | ((with_reducible refine gate_dst (N := 64) rfl ?_); refine glob_ rfl (v := .iface 106 (.pointer (some (ErrA.errA 1)))) (g := 0) ?hr ?hc ?_; (case hc => exact ErrOk.g0 (ErrOk.below HE.out zb) (by decide)); (case hr => intro W_ hc_; go_simp)) | ((with_reducible refine gate_dst (N := 21) rfl ?_); refine glob_ rfl (v := .iface 106 (.pointer (some (ErrA.errA 1)))) (g := 0) ?hr ?hc ?_; (case hc => exact ErrOk.g0 (ErrOk.below HE.out zb) (by decide)); (case hr => intro W_ hc_; go_simp)) | ((with_reducible refine gate_dst (N := 10) rfl ?_); (try (refine gate_guard (by rfl) ?_; dsimp only)); refine box_event ?hg (N := 10) ?hd (cs := #[.int .i64 0, .int .i64 0, .bool false, .slice none 0 0, .bool false, .slice none 0 0]) (t := 41) ?hr ?_; (case hd => rfl); (case hg => rfl); (case hr => first | (go_simp; done) | (go_simp; rfl)); intro gb267 hg w70 hbox hb; replace HO_265005 := tSB HO_265005 hg hb; replace HO_266005 := tSB HO_266005 hg hb; have BK267 := Aside0.mk (hbox); have GW267 := tge HB hg; have GE267 := tge HB hg; replace HB := tBs HB hb; have NB260_267 := tlt BK260 hg; have NB267_260 := tgt BK260 hg; replace BK260 := tBb BK260 hb; have NB261_267 := tlt BK261 hg; have NB267_261 := tgt BK261 hg; replace BK261 := tBb BK261 hb; have NB262_267 := tlt BK262 hg; have NB267_262 := tgt BK262 hg; replace BK262 := tBb BK262 hb; have NB264_267 := tlt BK264 hg; have NB267_264 := tgt BK264 hg; replace BK264 := tBb BK264 hb; have NB265_267 := tlt BK265 hg; have NB267_265 := tgt BK265 hg; replace BK265 := tBb BK265 hb; clear hb hbox hg; have hnb71 := NB267_260.out; have hnc71 := NB260_267.out; have hnb72 := NB267_261.out; have hnc72 := NB261_267.out; have hnb73 := NB267_262.out; have hnc73 := NB262_267.out; have hnb74 := NB267_264.out; have hnc74 := NB264_267.out; have hnb75 := NB267_265.out; have hnc75 := NB265_267.out; obtain ⟨hcz76_0, hcz76_1, hcz76_2, hcz76_3, hcz76_4, hcz76_5, hfz76_0, hfz76_1, hfz76_2, hfz76_3, hfz76_4, hfz76_5⟩ := cells6 BK267.out))
           have n0_ : Aside0 (Kd.S k41 41 ((((((w70.setCell ⟨gb267, 0, none⟩ (.int .i64 ((rd_T41 l0_5 x29_2).f0))).setCell ⟨gb267, 1, none⟩ (.int .i64 ((rd_T41 l0_5 x29_2).f1))).setCell ⟨gb267, 2, none⟩ (.bool ((rd_T41 l0_5 x29_2).f2))).setCell ⟨gb267, 3, none⟩ (.slice A266_3 ((rd_T41 l0_5 x29_2).f3).length c266_3)).setCell ⟨gb267, 4, none⟩ (.bool ((rd_T41 l0_5 x29_2).f4))).setCell ⟨gb267, 5, none⟩ (.slice A266_5 ((rd_T41 l0_5 x29_2).f5).length c266_5)) w.heap.size (fun k_ => some k_ ≠ (u266005 : Value).ownBlock ∧ k_ ≠ gb267) u265005 x265005_2) := ⟨tSm HO_265005.out⟩
           have n1_ : Aside0 (Kd.S k41 41 ((((((w70.setCell ⟨gb267, 0, none⟩ (.int .i64 ((rd_T41 l0_5 x29_2).f0))).setCell ⟨gb267, 1, none⟩ (.int .i64 ((rd_T41 l0_5 x29_2).f1))).setCell ⟨gb267, 2, none⟩ (.bool ((rd_T41 l0_5 x29_2).f2))).setCell ⟨gb267, 3, none⟩ (.slice A266_3 ((rd_T41 l0_5 x29_2).f3).length c266_3)).setCell ⟨gb267, 4, none⟩ (.bool ((rd_T41 l0_5 x29_2).f4))).setCell ⟨gb267, 5, none⟩ (.slice A266_5 ((rd_T41 l0_5 x29_2).f5).length c266_5)) w.heap.size (fun k_ => some k_ ≠ (u265005 : Value).ownBlock ∧ k_ ≠ gb267) u266005 x266005_2) := ⟨tSm HO_266005.out⟩
           have n2_ : Aside0 (((((((w70.setCell ⟨gb267, 0, none⟩ (.int .i64 ((rd_T41 l0_5 x29_2).f0))).setCell ⟨gb267, 1, none⟩ (.int .i64 ((rd_T41 l0_5 x29_2).f1))).setCell ⟨gb267, 2, none⟩ (.bool ((rd_T41 l0_5 x29_2).f2))).setCell ⟨gb267, 3, none⟩ (.slice A266_3 ((rd_T41 l0_5 x29_2).f3).length c266_3)).setCell ⟨gb267, 4, none⟩ (.bool ((rd_T41 l0_5 x29_2).f4))).setCell ⟨gb267, 5, none⟩ (.slice A266_5 ((rd_T41 l0_5 x29_2).f5).length c266_5)).heap[gb260]? = some (.cells #[.bool a0_0, .bool a0_1, .int .i64 a0_2, .int .i64 a0_3, .int .i64 a0_4, .slice (some ad266) l0_5.length c0_5] 25 (0, 0))) := ⟨tH BK260.out⟩
           have n3_ : Aside0 (((((((w70.setCell ⟨gb267, 0, none⟩ (.int .i64 ((rd_T41 l0_5 x29_2).f0))).setCell ⟨gb267, 1, none⟩ (.int .i64 ((rd_T41 l0_5 x29_2).f1))).setCell ⟨gb267, 2, none⟩ (.bool ((rd_T41 l0_5 x29_2).f2))).setCell ⟨gb267, 3, none⟩ (.slice A266_3 ((rd_T41 l0_5 x29_2).f3).length c266_3)).setCell ⟨gb267, 4, none⟩ (.bool ((rd_T41 l0_5 x29_2).f4))).setCell ⟨gb267, 5, none⟩ (.slice A266_5 ((rd_T41 l0_5 x29_2).f5).length c266_5)).heap[gb261]? = some (.cells #[.bool false, .bool false, .int .i64 0, .int .i64 0, .int .i64 0, .slice none 0 0] 25 (0, 0))) := ⟨tH BK261.out⟩
           have n4_ : Aside0 (((((((w70.setCell ⟨gb267, 0, none⟩ (.int .i64 ((rd_T41 l0_5 x29_2).f0))).setCell ⟨gb267, 1, none⟩ (.int .i64 ((rd_T41 l0_5 x29_2).f1))).setCell ⟨gb267, 2, none⟩ (.bool ((rd_T41 l0_5 x29_2).f2))).setCell ⟨gb267, 3, none⟩ (.slice A266_3 ((rd_T41 l0_5 x29_2).f3).length c266_3)).setCell ⟨gb267, 4, none⟩ (.bool ((rd_T41 l0_5 x29_2).f4))).setCell ⟨gb267, 5, none⟩ (.slice A266_5 ((rd_T41 l0_5 x29_2).f5).length c266_5)).heap[gb262]? = some (.cells #[.bool false, .bool false, .int .i64 0, .int .i64 0, .int .i64 0, .slice none 0 0] 25 (0, 0))) := ⟨tH BK262.out⟩
           have n5_ : Aside0 (((((((w70.setCell ⟨gb267, 0, none⟩ (.int .i64 ((rd_T41 l0_5 x29_2).f0))).setCell ⟨gb267, 1, none⟩ (.int .i64 ((rd_T41 l0_5 x29_2).f1))).setCell ⟨gb267, 2, none⟩ (.bool ((rd_T41 l0_5 x29_2).f2))).setCell ⟨gb267, 3, none⟩ (.slice A266_3 ((rd_T41 l0_5 x29_2).f3).length c266_3)).setCell ⟨gb267, 4, none⟩ (.bool ((rd_T41 l0_5 x29_2).f4))).setCell ⟨gb267, 5, none⟩ (.slice A266_5 ((rd_T41 l0_5 x29_2).f5).length c266_5)).heap[gb264]? = some (.cells #[.bool a0_0, .bool false, .int .i64 255, .int .i64 0, .int .i64 0, u265005] 25 (0, 0))) := ⟨tH BK264.out⟩
           have n6_ : Aside0 (((((((w70.setCell ⟨gb267, 0, none⟩ (.int .i64 ((rd_T41 l0_5 x29_2).f0))).setCell ⟨gb267, 1, none⟩ (.int .i64 ((rd_T41 l0_5 x29_2).f1))).setCell ⟨gb267, 2, none⟩ (.bool ((rd_T41 l0_5 x29_2).f2))).setCell ⟨gb267, 3, none⟩ (.slice A266_3 ((rd_T41 l0_5 x29_2).f3).length c266_3)).setCell ⟨gb267, 4, none⟩ (.bool ((rd_T41 l0_5 x29_2).f4))).setCell ⟨gb267, 5, none⟩ (.slice A266_5 ((rd_T41 l0_5 x29_2).f5).length c266_5)).heap[gb265]? = some (.cells #[.bool a0_0, .bool false, .int .i64 255, .int .i64 0, .int .i64 0, u266005] 25 (0, 0))) := ⟨tH BK265.out⟩
           have n7_ : Aside0 (((((((w70.setCell ⟨gb267, 0, none⟩ (.int .i64 ((rd_T41 l0_5 x29_2).f0))).setCell ⟨gb267, 1, none⟩ (.int .i64 ((rd_T41 l0_5 x29_2).f1))).setCell ⟨gb267, 2, none⟩ (.bool ((rd_T41 l0_5 x29_2).f2))).setCell ⟨gb267, 3, none⟩ (.slice A266_3 ((rd_T41 l0_5 x29_2).f3).length c266_3)).setCell ⟨gb267, 4, none⟩ (.bool ((rd_T41 l0_5 x29_2).f4))).setCell ⟨gb267, 5, none⟩ (.slice A266_5 ((rd_T41 l0_5 x29_2).f5).length c266_5)).heap[gb267]? = some (.cells #[.int .i64 ((rd_T41 l0_5 x29_2).f0), .int .i64 ((rd_T41 l0_5 x29_2).f1), .bool ((rd_T41 l0_5 x29_2).f2), .slice A266_3 ((rd_T41 l0_5 x29_2).f3).length c266_3, .bool ((rd_T41 l0_5 x29_2).f4), .slice A266_5 ((rd_T41 l0_5 x29_2).f5).length c266_5] 41 (0, 0))) := ⟨tP BK267.out⟩
           have n8_ : Aside0 (Below w.heap.size w ((((((w70.setCell ⟨gb267, 0, none⟩ (.int .i64 ((rd_T41 l0_5 x29_2).f0))).setCell ⟨gb267, 1, none⟩ (.int .i64 ((rd_T41 l0_5 x29_2).f1))).setCell ⟨gb267, 2, none⟩ (.bool ((rd_T41 l0_5 x29_2).f2))).setCell ⟨gb267, 3, none⟩ (.slice A266_3 ((rd_T41 l0_5 x29_2).f3).length c266_3)).setCell ⟨gb267, 4, none⟩ (.bool ((rd_T41 l0_5 x29_2).f4))).setCell ⟨gb267, 5, none⟩ (.slice A266_5 ((rd_T41 l0_5 x29_2).f5).length c266_5))) := ⟨zb⟩
           (try clear HO_265005)
           (try clear HO_266005)
           (try clear BK260)
           (try clear BK261)
           (try clear BK262)
           (try clear BK264)
           (try clear BK265)
           (try clear BK267)
           (try clear HB)
           generalize ((((((w70.setCell ⟨gb267, 0, none⟩ (.int .i64 ((rd_T41 l0_5 x29_2).f0))).setCell ⟨gb267, 1, none⟩ (.int .i64 ((rd_T41 l0_5 x29_2).f1))).setCell ⟨gb267, 2, none⟩ (.bool ((rd_T41 l0_5 x29_2).f2))).setCell ⟨gb267, 3, none⟩ (.slice A266_3 ((rd_T41 l0_5 x29_2).f3).length c266_3)).setCell ⟨gb267, 4, none⟩ (.bool ((rd_T41 l0_5 x29_2).f4))).setCell ⟨gb267, 5, none⟩ (.slice A266_5 ((rd_T41 l0_5 x29_2).f5).length c266_5)) = w77 at n0_ n1_ n2_ n3_ n4_ n5_ n6_ n7_ n8_ ⊢
           have HO_265005 := n0_
           have HO_266005 := n1_
           have BK260 := n2_
           have BK261 := n3_
           have BK262 := n4_
           have BK264 := n5_
           have BK265 := n6_
           have BK267 := n7_
           have HB := n8_
           clear n0_ n1_ n2_ n3_ n4_ n5_ n6_ n7_ n8_
           replace HO_265005 := Aside0.mk (Kd.S_drew HO_265005.out)
           replace HO_266005 := Aside0.mk (Kd.S_drew HO_266005.out)
           replace BK260 := Aside0.mk (blk_drew BK260.out)
           replace BK261 := Aside0.mk (blk_drew BK261.out)
           replace BK262 := Aside0.mk (blk_drew BK262.out)
           replace BK264 := Aside0.mk (blk_drew BK264.out)
           replace BK265 := Aside0.mk (blk_drew BK265.out)
           replace BK267 := Aside0.mk (blk_drew BK267.out)
           replace HB := Aside0.mk (below_drew1 HB.out)
           refine start_ (n := 8) (S := fun w' => w'.cell? ⟨gb265, 0, none⟩ = some (.bool a0_0) ∧ w'.cell? ⟨gb265, 1, none⟩ = some (.bool false) ∧ w'.cell? ⟨gb265, 2, none⟩ = some (.int .i64 255) ∧ w'.cell? ⟨gb265, 3, none⟩ = some (.int .i64 0) ∧ w'.cell? ⟨gb265, 4, none⟩ = some (.int .i64 0) ∧ w'.cell? ⟨gb265, 5, none⟩ = some (u266005) ∧ w'.cell? ⟨gb267, 0, none⟩ = some (.int .i64 ((rd_T41 l0_5 x29_2).f0)) ∧ w'.cell? ⟨gb267, 1, none⟩ = some (.int .i64 ((rd_T41 l0_5 x29_2).f1)) ∧ w'.cell? ⟨gb267, 2, none⟩ = some (.bool ((rd_T41 l0_5 x29_2).f2)) ∧ w'.cell? ⟨gb267, 3, none⟩ = some (.slice A266_3 ((rd_T41 l0_5 x29_2).f3).length c266_3) ∧ w'.cell? ⟨gb267, 4, none⟩ = some (.bool ((rd_T41 l0_5 x29_2).f4)) ∧ w'.cell? ⟨gb267, 5, none⟩ = some (.slice A266_5 ((rd_T41 l0_5 x29_2).f5).length c266_5)) (ds := [7]) #[false, false, false, false, false, false, false, false] (by kernel_rfl) rfl rfl ⟨(blk_cell BK265.out 0).trans rfl, (blk_cell BK265.out 1).trans rfl, (blk_cell BK265.out 2).trans rfl, (blk_cell BK265.out 3).trans rfl, (blk_cell BK265.out 4).trans rfl, (blk_cell BK265.out 5).trans rfl, (blk_cell BK267.out 0).trans rfl, (blk_cell BK267.out 1).trans rfl, (blk_cell BK267.out 2).trans rfl, (blk_cell BK267.out 3).trans rfl, (blk_cell BK267.out 4).trans rfl, (blk_cell BK267.out 5).trans rfl⟩ (fun hHeld => ?_); refine with_tabW impl_Batch_cut.tab10 impl_Batch_cut.bits10 (fun HT_ HW_ => ?_)
           generalize w77.drew = w78 at HO_265005 HO_266005 BK260 BK261 BK262 BK264 BK265 BK267 HB hHeld ⊢
           refine tpu 0 (some 44) #[true, false, false, false, false, false, false, false] ?_
           refine tta 1 (some 45) #[true, true, false, false, false, false, false, false] hHeld ?_ (hy := by rintro w' ⟨s0, s1, s2, s3, s4, s5, s6, s7, s8, s9, s10, s11⟩; go_simp; with_reducible rfl)
           refine tta 2 (some 46) #[true, true, true, false, false, false, false, false] hHeld ?_ (hy := by rintro w' ⟨s0, s1, s2, s3, s4, s5, s6, s7, s8, s9, s10, s11⟩; go_simp; with_reducible rfl)
           refine one_ (i := 3) (N := some 47) #[true, true, true, true, false, false, false, false] rfl rfl (one_of HT_.out (by kernel_rfl)) (by decide) (fun K hK => ?_)
           refine goes_ Tryd.func43 (by kernel_rfl) rfl #[.agg #[.int .i64 ((rd_T41 l0_5 x29_2).f0), .int .i64 ((rd_T41 l0_5 x29_2).f1), .bool ((rd_T41 l0_5 x29_2).f2), .slice A266_3 ((rd_T41 l0_5 x29_2).f3).length c266_3, .bool ((rd_T41 l0_5 x29_2).f4), .slice A266_5 ((rd_T41 l0_5 x29_2).f5).length c266_5]] (by rfl) rfl rfl tq ?_
           with_reducible refine (impl_Record_copyOf.calls ((rd_T41 l0_5 x29_2).f0) ((rd_T41 l0_5 x29_2).f1) ((rd_T41 l0_5 x29_2).f2) _ _ ((rd_T41 l0_5 x29_2).f3) ((rd_T41 l0_5 x29_2).f4) _ _ ((rd_T41 l0_5 x29_2).f5) t281 t282 t283 t284 t287 t288 _ ?side1 ?side2 ?side3 ?side4 A68.out).mono ?_
           (case side1 => exact tC (Kd.C_below HR266_3.out HB.out))
           (case side2 => exact HC266_3.out)
           (case side3 => exact tC (Kd.C_below HR266_5.out HB.out))
           (case side4 => exact HC266_5.out)
           rintro e w79 ⟨v285, v289, rfl, ho0, ho1, hb⟩
           refine ⟨_, rfl, ?_⟩
           replace HO_265005 := Aside0.mk (Kd.S_mono (Kd.S_told (Kd.S_told (Kd.S_old (tS HO_265005.out) hb) (Kd.R_base ho0)) (Kd.R_base ho1)) (fun _ h_ => h_.1))
           replace HO_266005 := Aside0.mk (Kd.S_mono (Kd.S_told (Kd.S_told (Kd.S_old (tS HO_266005.out) hb) (Kd.R_base ho0)) (Kd.R_base ho1)) (fun _ h_ => h_.1))
           have HO286 := tRl ho0 HB
           have HO290 := tRl ho1 HB
           replace BK260 := tBb BK260 hb
           replace BK261 := tBb BK261 hb
           replace BK262 := tBb BK262 hb
           replace BK264 := tBb BK264 hb
           replace BK265 := tBb BK265 hb
           replace BK267 := tBb BK267 hb
           replace HB := tBs HB hb
           (try clear hb)
           (try clear hb2)
           (try clear hk)
           (try clear hi)
           (try clear ho0)
           (try clear ho1)
           obtain ⟨Ao81, co81, eo81⟩ := Kd.R_slice HO286.out
           (first | subst eo81 | (injection eo81 with f1_ f2_ f3_; have f4_ := f1_.symm; have f5_ := f3_.symm; clear f1_ f2_ f3_; subst f4_; subst f5_))
           obtain ⟨Ao82, co82, eo82⟩ := Kd.R_slice HO290.out
           (first | subst eo82 | (injection eo82 with f1_ f2_ f3_; have f4_ := f1_.symm; have f5_ := f3_.symm; clear f1_ f2_ f3_; subst f4_; subst f5_))
           refine hK.out _ _ ⟨(blk_cell BK265.out 0).trans rfl, (blk_cell BK265.out 1).trans rfl, (blk_cell BK265.out 2).trans rfl, (blk_cell BK265.out 3).trans rfl, (blk_cell BK265.out 4).trans rfl, (blk_cell BK265.out 5).trans rfl, (blk_cell BK267.out 0).trans rfl, (blk_cell BK267.out 1).trans rfl, (blk_cell BK267.out 2).trans rfl, (blk_cell BK267.out 3).trans rfl, (blk_cell BK267.out 4).trans rfl, (blk_cell BK267.out 5).trans rfl⟩ (fun hHeld => ?_)
           clear hK K
           refine tnm (some 47) ?_
           refine one_ (i := 4) (N := some 48) #[true, true, true, true, true, false, false, false] rfl rfl (one_of HT_.out (by kernel_rfl)) (by decide) (fun K hK => ?_)
           refine value_ (w1 := ?_) (v := ?_) (by rfl) rfl ?_ ?_
           rotate_left 2
           ·go_simp
            constructor
            ·rfl
            ·rfl
           refine hK.out _ _ ⟨(blk_cell (blk_alloc BK265.out _) 0).trans rfl, (blk_cell (blk_alloc BK265.out _) 1).trans rfl, (blk_cell (blk_alloc BK265.out _) 2).trans rfl, (blk_cell (blk_alloc BK265.out _) 3).trans rfl, (blk_cell (blk_alloc BK265.out _) 4).trans rfl, (blk_cell (blk_alloc BK265.out _) 5).trans rfl, (blk_cell (blk_alloc BK267.out _) 0).trans rfl, (blk_cell (blk_alloc BK267.out _) 1).trans rfl, (blk_cell (blk_alloc BK267.out _) 2).trans rfl, (blk_cell (blk_alloc BK267.out _) 3).trans rfl, (blk_cell (blk_alloc BK267.out _) 4).trans rfl, (blk_cell (blk_alloc BK267.out _) 5).trans rfl⟩ (fun hHeld => ?_)
           clear hK K
           refine tnm (some 48) ?_
           refine one_ (i := 5) (N := some 49) #[true, true, true, true, true, true, false, false] rfl rfl (one_of HT_.out (by kernel_rfl)) (by decide) (fun K hK => ?_)
           refine Kd.S_append_step k41 (w0 := w) w.heap.size (by rfl) (.tmp 45) (.tmp 48) 23 41 (.agg #[(.int .i64 0), (.int .i64 0), (.bool false), (.slice none 0 0), (.bool false), (.slice none 0 0)]) 80 rfl Tryd.underlying23 info41 rfl (by decide) (by omega) u266005 x266005_2 (⟨t281, t282, t283, t284, t287, t288⟩ : S41) [.int .i64 t281, .int .i64 t282, .bool t283, .slice Ao81 t284.length co81, .bool t287, .slice Ao82 t288.length co82] (fun k_ => some k_ ≠ (u265005 : Value).ownBlock ∧ k_ ≠ gb267) (fun k_ => some k_ = (.slice Ao81 t284.length co81 : Value).ownBlock ∨ some k_ = (.slice Ao82 t288.length co82 : Value).ownBlock) rfl rfl ?aP (fun k_ hk_ => hk_.elim (fun h_ => ((Kd.R_mono (ok' := fun k_ => ((fun k_ => some k_ ≠ (u265005 : Value).ownBlock ∧ k_ ≠ gb267)) k_ ∧ some k_ ≠ (u266005 : Value).ownBlock) (Kd.R_types (Kd.R_apart' (Kd.R_apart' (HO286.out) (Kd.S_typed HO_265005.out) (by decide)) (Kd.S_typed HO_266005.out) (by decide)) BK267.out (by decide)) (fun k_ hk => ⟨⟨hk.1.1.2, hk.2⟩, hk.1.2⟩))).1 k_ h_.symm) (fun h_ => ((Kd.R_mono (ok' := fun k_ => ((fun k_ => some k_ ≠ (u265005 : Value).ownBlock ∧ k_ ≠ gb267)) k_ ∧ some k_ ≠ (u266005 : Value).ownBlock) (Kd.R_types (Kd.R_apart' (Kd.R_apart' (HO290.out) (Kd.S_typed HO_265005.out) (by decide)) (Kd.S_typed HO_266005.out) (by decide)) BK267.out (by decide)) (fun k_ hk => ⟨⟨hk.1.1.2, hk.2⟩, hk.1.2⟩))).1 k_ h_.symm)) ?aF ?aO ?aB ?aS ?aL ?_
           (case aP => exact k41_mkM _ _ _ (⟨t281, t282, t283, t284, t287, t288⟩ : S41) (Kd.R_mono (Kd.R_tight rfl (Kd.R_mono (ok' := fun k_ => ((fun k_ => some k_ ≠ (u265005 : Value).ownBlock ∧ k_ ≠ gb267)) k_ ∧ some k_ ≠ (u266005 : Value).ownBlock) (Kd.R_types (Kd.R_apart' (Kd.R_apart' (HO286.out) (Kd.S_typed HO_265005.out) (by decide)) (Kd.S_typed HO_266005.out) (by decide)) BK267.out (by decide)) (fun k_ hk => ⟨⟨hk.1.1.2, hk.2⟩, hk.1.2⟩))) (fun _ h_ => Or.inl h_)) (Kd.R_mono (Kd.R_tight rfl (Kd.R_mono (ok' := fun k_ => ((fun k_ => some k_ ≠ (u265005 : Value).ownBlock ∧ k_ ≠ gb267)) k_ ∧ some k_ ≠ (u266005 : Value).ownBlock) (Kd.R_types (Kd.R_apart' (Kd.R_apart' (HO290.out) (Kd.S_typed HO_265005.out) (by decide)) (Kd.S_typed HO_266005.out) (by decide)) BK267.out (by decide)) (fun k_ hk => ⟨⟨hk.1.1.2, hk.2⟩, hk.1.2⟩))) (fun _ h_ => Or.inr (h_))))
           (case aB => exact zb)
           (case aF => exact (fun k_ hk => ⟨Kd.fresh' (Kd.S_lt (tS HO_265005.out)) k_ hk, tfB BK267 k_ hk⟩))
           (case aO => exact (tSm HO_266005.out))
           (case aS => exact (below_size zb))
           (case aL => have := LMc69.out; omega)
           intro v292 w80 ho hb hg hat
           rw [← Ny291.out] at ho
           replace HO_265005 := Aside0.mk (Kd.S_after (ok := (fun k_ => some k_ ≠ (.slice Ao81 t284.length co81 : Value).ownBlock ∧ some k_ ≠ (.slice Ao82 t288.length co82 : Value).ownBlock ∧ k_ ≠ gb267)) (tSm HO_265005.out) hg hat)
           replace BK260 := Aside0.mk (blk_grown (tH BK260.out) hg (Kd.S_ne HO_266005.out BK260.out (by decide)))
           replace BK261 := Aside0.mk (blk_grown (tH BK261.out) hg (Kd.S_ne HO_266005.out BK261.out (by decide)))
           replace BK262 := Aside0.mk (blk_grown (tH BK262.out) hg (Kd.S_ne HO_266005.out BK262.out (by decide)))
           replace BK264 := Aside0.mk (blk_grown (tH BK264.out) hg (Kd.S_ne HO_266005.out BK264.out (by decide)))
           replace BK265 := Aside0.mk (blk_grown (tH BK265.out) hg (Kd.S_ne HO_266005.out BK265.out (by decide)))
           replace BK267 := Aside0.mk (blk_grown (tH BK267.out) hg (Kd.S_away HO_266005.out (fun _ hk => hk.1.1.2)))
           replace HB := Aside0.mk (hb)
           have HO293 := Aside0.mk (ho)
           clear HO_266005 HO286 HO290
           clear ho hb hg hat
           obtain ⟨Ao83, co83, eo83⟩ := Kd.S_slice HO293.out
           (first | subst eo83 | (injection eo83 with f1_ f2_ f3_; have f4_ := f1_.symm; have f5_ := f3_.symm; clear f1_ f2_ f3_; subst f4_; subst f5_))
           refine hK.out _ _ ⟨(blk_cell BK265.out 0).trans rfl, (blk_cell BK265.out 1).trans rfl, (blk_cell BK265.out 2).trans rfl, (blk_cell BK265.out 3).trans rfl, (blk_cell BK265.out 4).trans rfl, (blk_cell BK265.out 5).trans rfl, (blk_cell BK267.out 0).trans rfl, (blk_cell BK267.out 1).trans rfl, (blk_cell BK267.out 2).trans rfl, (blk_cell BK267.out 3).trans rfl, (blk_cell BK267.out 4).trans rfl, (blk_cell BK267.out 5).trans rfl⟩ (fun hHeld => ?_)
           clear hK K
           refine tnm (some 49) ?_
           refine tpu 6 (some 50) #[true, true, true, true, true, true, true, false] ?_
           refine last_ (i := 7) (N := none) #[true, true, true, true, true, true, true, true] rfl rfl (one_of HT_.out (by kernel_rfl)) (by decide) (fun K hK => ?_)
           have hs84 : w80.cell? ⟨gb265, 5, none⟩ = some (u266005) := (blk_cell BK265.out 5).trans rfl
           have hfs84 := blk_frozen BK265.out 5
           have hns84_0 := NB260_265.out
           have hns84_1 := NB261_265.out
           have hns84_2 := NB262_265.out
           have hns84_3 := NB264_265.out
           have hns84_5 := NB267_265.out
           have hms84_0 := NB265_260.out
           have hms84_1 := NB265_261.out
           have hms84_2 := NB265_262.out
           have hms84_3 := NB265_264.out
           have hms84_5 := NB265_267.out
           refine tsk ?_
           refine hK.out _ _ ?_
           clear hK K
           refine done_ (done_of HT_.out (by kernel_rfl)) ?_
           try go_wp2
           go_roundg k2
           case measure => have := HJ2.out; have := HK2.out; omega
           case rel => exact ⟨(wrap64 (x29_2 + 1)), (x265005_2), (y291), (u265005), (.slice Ao83 y291.length co83), tr, H', ⟨by have := HJ2.out; have := HK2.out; omega⟩, ⟨tSm (Kd.S_types HO_265005.out BK265.out (by decide))⟩, ⟨tSm (Kd.S_types HO293.out BK265.out (by decide))⟩, ⟨tH BK260.out⟩, ⟨tH BK261.out⟩, ⟨tH BK262.out⟩, ⟨tH BK264.out⟩, ⟨tP BK265.out⟩, ⟨zb⟩⟩
          ·rw [if_neg c69] at H
           exact absurd H (by simp)
        ·rw [if_neg c49] at H
         exact absurd H (by simp)
       ·rw [if_neg c48] at H
        exact absurd H (by simp)
      ·rw [if_neg c47] at H
       have c47b0 : decide (x29_2 < (l0_5.length : Int)) = false := decide_eq_false c47
       clear c47
       by_cases c85 : (x265005_2.length : Int) = 0
       ·rw [if_pos c85] at H
        have c85b0 : ((x265005_2.length : Int) == 0) = true := beq_iff_eq.mpr c85
        have c85b1 : ((x265005_2.length : Int) != 0) = false := bne_eq_false_iff_eq.mpr c85
        clear c85
        simp only [Option.some.injEq, Prod.mk.injEq] at H
        obtain ⟨rfl, rfl, rfl, rfl, rfl, rfl, rfl, rfl, rfl, rfl, rfl, rfl, rfl⟩ := H
        have hnb86 := NB264_260.out
        have hnc86 := NB260_264.out
        have hnb87 := NB264_261.out
        have hnc87 := NB261_264.out
        have hnb88 := NB264_262.out
        have hnc88 := NB262_264.out
        have hnb89 := NB264_265.out
        have hnc89 := NB265_264.out
        obtain ⟨hcz90_0, hcz90_1, hcz90_2, hcz90_3, hcz90_4, hcz90_5, hfz90_0, hfz90_1, hfz90_2, hfz90_3, hfz90_4, hfz90_5⟩ := cells6 BK264.out
        obtain ⟨Ao91, co91, eo91⟩ := Kd.S_slice HO_265005.out
        subst eo91
        try go_wp2
        replace HO_265005 := Aside0.mk (Kd.S_drew HO_265005.out)
        replace HO_266005 := Aside0.mk (Kd.S_drew HO_266005.out)
        replace BK260 := Aside0.mk (blk_drew BK260.out)
        replace BK261 := Aside0.mk (blk_drew BK261.out)
        replace BK262 := Aside0.mk (blk_drew BK262.out)
        replace BK264 := Aside0.mk (blk_drew BK264.out)
        replace BK265 := Aside0.mk (blk_drew BK265.out)
        replace HB := Aside0.mk (below_drew1 HB.out)
        refine start_ (n := 6) (S := ErrOk [0]) (ds := []) #[false, false, false, false, false, false] (by kernel_rfl) rfl rfl (ErrOk.below HE.out HB.out) (fun hHeld => ?_)
        generalize wr.drew = w92 at HO_265005 HO_266005 BK260 BK261 BK262 BK264 BK265 HB hHeld ⊢
        refine pure_ (i := 0) (N := some 62) (v := ?_) (a' := ?_) #[true, false, false, false, false, false] rfl rfl (by kernel_rfl) (fun _ _ _ h => h) (Or.inl ⟨by rfl, ?_⟩) ?_ ?_
        rotate_left
        ·intro w'
         go_simp
         with_reducible rfl
        rotate_left
        ·simp only [Act.put, List.setIfInBounds_toArray, List.set_cons_zero, List.set_cons_succ, i64_w, i32_w]
         rfl
        refine pure_ (i := 1) (N := some 63) (v := ?_) (a' := ?_) #[true, true, false, false, false, false] rfl rfl (by kernel_rfl) (fun _ _ _ h => h) (Or.inl ⟨by rfl, ?_⟩) ?_ ?_
        rotate_left
        ·intro w'
         go_simp
         with_reducible rfl
        rotate_left
        ·simp only [Act.put, List.setIfInBounds_toArray, List.set_cons_zero, List.set_cons_succ, i64_w, i32_w]
         rfl
        refine take_ (i := 2) (N := some 64) (v := ?_) (a' := ?_) #[true, true, true, false, false, false] rfl rfl (by kernel_rfl) (fun _ _ _ h => h) (Or.inl ⟨by rfl, ?_⟩) hHeld ?_ ?_
        rotate_left
        ·intro w' hS_
         try have hg0_ := ErrOk.g0 hS_ (by decide)
         try have hg1_ := ErrOk.g1 hS_ (by decide)
         clear hS_
         go_simp
         with_reducible rfl
        rotate_left
        ·simp only [Act.put, List.setIfInBounds_toArray, List.set_cons_zero, List.set_cons_succ, i64_w, i32_w]
         rfl
        refine one_ (i := 3) (N := none) #[true, true, true, true, false, false] rfl rfl (by kernel_rfl) (by decide) (fun K hK => ?_)
        have hs93 : w92.cell? ⟨gb261, 0, none⟩ = some (.bool false) := (blk_cell BK261.out 0).trans rfl
        have hfs93 := blk_frozen BK261.out 0
        have hns93_0 := NB260_261.out
        have hns93_2 := NB262_261.out
        have hns93_3 := NB264_261.out
        have hns93_4 := NB265_261.out
        have hms93_0 := NB261_260.out
        have hms93_2 := NB261_262.out
        have hms93_3 := NB261_264.out
        have hms93_4 := NB261_265.out
        have hs94 : w92.cell? ⟨gb261, 1, none⟩ = some (.bool false) := (blk_cell BK261.out 1).trans rfl
        have hfs94 := blk_frozen BK261.out 1
        have hs95 : w92.cell? ⟨gb261, 2, none⟩ = some (.int .i64 0) := (blk_cell BK261.out 2).trans rfl
        have hfs95 := blk_frozen BK261.out 2
        have hs96 : w92.cell? ⟨gb261, 3, none⟩ = some (.int .i64 0) := (blk_cell BK261.out 3).trans rfl
        have hfs96 := blk_frozen BK261.out 3
        have hs97 : w92.cell? ⟨gb261, 4, none⟩ = some (.int .i64 0) := (blk_cell BK261.out 4).trans rfl
        have hfs97 := blk_frozen BK261.out 4
        have hs98 : w92.cell? ⟨gb261, 5, none⟩ = some (.slice none 0 0) := (blk_cell BK261.out 5).trans rfl
        have hfs98 := blk_frozen BK261.out 5
        refine tsk ?_
        refine hK.out _ _ (by repeat (first | (with_reducible exact hHeld) | (with_reducible refine ErrOk.set HE.out ?_ (by with_reducible first | exact GE260.out | exact GE261.out | exact GE262.out | exact GE264.out | exact GE265.out | exact GE267.out) _ _))) (fun hHeld => ?_)
        clear hK K
        refine one_ (i := 4) (N := none) #[true, true, true, true, true, false] rfl rfl (by kernel_rfl) (by decide) (fun K hK => ?_)
        have hs99 : w92.cell? ⟨gb262, 0, none⟩ = some (.bool false) := (blk_cell BK262.out 0).trans rfl
        have hfs99 := blk_frozen BK262.out 0
        have hns99_0 := NB260_262.out
        have hns99_1 := NB261_262.out
        have hns99_3 := NB264_262.out
        have hns99_4 := NB265_262.out
        have hms99_0 := NB262_260.out
        have hms99_1 := NB262_261.out
        have hms99_3 := NB262_264.out
        have hms99_4 := NB262_265.out
        have hs100 : w92.cell? ⟨gb262, 1, none⟩ = some (.bool false) := (blk_cell BK262.out 1).trans rfl
        have hfs100 := blk_frozen BK262.out 1
        have hs101 : w92.cell? ⟨gb262, 2, none⟩ = some (.int .i64 0) := (blk_cell BK262.out 2).trans rfl
        have hfs101 := blk_frozen BK262.out 2
        have hs102 : w92.cell? ⟨gb262, 3, none⟩ = some (.int .i64 0) := (blk_cell BK262.out 3).trans rfl
        have hfs102 := blk_frozen BK262.out 3
        have hs103 : w92.cell? ⟨gb262, 4, none⟩ = some (.int .i64 0) := (blk_cell BK262.out 4).trans rfl
        have hfs103 := blk_frozen BK262.out 4
        have hs104 : w92.cell? ⟨gb262, 5, none⟩ = some (.slice none 0 0) := (blk_cell BK262.out 5).trans rfl
        have hfs104 := blk_frozen BK262.out 5
        refine tsk ?_
        refine hK.out _ _ (by repeat (first | (with_reducible exact hHeld) | (with_reducible refine ErrOk.set HE.out ?_ (by with_reducible first | exact GE260.out | exact GE261.out | exact GE262.out | exact GE264.out | exact GE265.out | exact GE267.out) _ _))) (fun hHeld => ?_)
        clear hK K
        refine pure_ (i := 5) (N := some 6) (v := ?_) (a' := ?_) #[true, true, true, true, true, true] rfl rfl (by kernel_rfl) (fun _ _ _ h => h) (Or.inl ⟨by rfl, ?_⟩) ?_ ?_
        rotate_left
        ·intro w'
         go_simp
         with_reducible rfl
        rotate_left
        ·simp only [Act.put, List.setIfInBounds_toArray, List.set_cons_zero, List.set_cons_succ, i64_w, i32_w]
         rfl
        refine done_ (by kernel_rfl) ?_
        try go_wp2
        refine bodyPost_ret (results_list (rs := [.cell 4 25, .cell 5 25, .tmp 6]) rfl (by simp) (.cell gb261 25 #[.bool false, .bool false, .int .i64 0, .int .i64 0, .int .i64 0, .slice none 0 0] (0, 0) _ rfl (tP BK261.out) Tryd.underlying25 rfl (by kernel_rfl) (.cell gb262 25 #[.bool false, .bool false, .int .i64 0, .int .i64 0, .int .i64 0, .slice none 0 0] (0, 0) _ rfl (tP BK262.out) Tryd.underlying25 rfl (by kernel_rfl) (.tmp .nil)))) rfl ?_
        exact ⟨_, _, by first | rfl | (simp [errW_none, errW_some] <;> rfl) | (simp [*, errW_none, errW_some] <;> rfl), by first | exact Kd.S_nil _ _ _ _ _ | exact Kd.N_nil _ _ _ _ _ | exact Kd.V_nil _ _ _ _ _ | exact Kd.Q_nil _ _ _ _ _ | exact Kd.R_nil _ _ _ _ _, by first | exact Kd.S_nil _ _ _ _ _ | exact Kd.N_nil _ _ _ _ _ | exact Kd.V_nil _ _ _ _ _ | exact Kd.Q_nil _ _ _ _ _ | exact Kd.R_nil _ _ _ _ _, zb⟩
       ·rw [if_neg c85] at H
        have c85b0 : ((x265005_2.length : Int) == 0) = false := beq_eq_false_iff_ne.mpr c85
        have c85b1 : ((x265005_2.length : Int) != 0) = true := bne_iff_ne.mpr c85
        have c85b2 : ¬ (x265005_2 = []) := fun h_ => c85 (by rw [h_]; rfl)
        by_cases c105 : (x266005_2.length : Int) = 0
        ·rw [if_pos c105] at H
         have c105b0 : ((x266005_2.length : Int) == 0) = true := beq_iff_eq.mpr c105
         have c105b1 : ((x266005_2.length : Int) != 0) = false := bne_eq_false_iff_eq.mpr c105
         clear c105
         simp only [Option.some.injEq, Prod.mk.injEq] at H
         obtain ⟨rfl, rfl, rfl, rfl, rfl, rfl, rfl, rfl, rfl, rfl, rfl, rfl, rfl⟩ := H
         have hnb106 := NB264_260.out
         have hnc106 := NB260_264.out
         have hnb107 := NB264_261.out
         have hnc107 := NB261_264.out
         have hnb108 := NB264_262.out
         have hnc108 := NB262_264.out
         have hnb109 := NB264_265.out
         have hnc109 := NB265_264.out
         obtain ⟨hcz110_0, hcz110_1, hcz110_2, hcz110_3, hcz110_4, hcz110_5, hfz110_0, hfz110_1, hfz110_2, hfz110_3, hfz110_4, hfz110_5⟩ := cells6 BK264.out
         obtain ⟨Ao111, co111, eo111⟩ := Kd.S_slice HO_265005.out
         subst eo111
         have hnb112 := NB265_260.out
         have hnc112 := NB260_265.out
         have hnb113 := NB265_261.out
         have hnc113 := NB261_265.out
         have hnb114 := NB265_262.out
         have hnc114 := NB262_265.out
         obtain ⟨hcz115_0, hcz115_1, hcz115_2, hcz115_3, hcz115_4, hcz115_5, hfz115_0, hfz115_1, hfz115_2, hfz115_3, hfz115_4, hfz115_5⟩ := cells6 BK265.out
         obtain ⟨Ao116, co116, eo116⟩ := Kd.S_slice HO_266005.out
         subst eo116
         try go_wp2
         replace HO_265005 := Aside0.mk (Kd.S_drew HO_265005.out)
         replace HO_266005 := Aside0.mk (Kd.S_drew HO_266005.out)
         replace BK260 := Aside0.mk (blk_drew BK260.out)
         replace BK261 := Aside0.mk (blk_drew BK261.out)
         replace BK262 := Aside0.mk (blk_drew BK262.out)
         replace BK264 := Aside0.mk (blk_drew BK264.out)
         replace BK265 := Aside0.mk (blk_drew BK265.out)
         replace HB := Aside0.mk (below_drew1 HB.out)
         refine start_ (n := 6) (S := ErrOk [0]) (ds := []) #[false, false, false, false, false, false] (by kernel_rfl) rfl rfl (ErrOk.below HE.out HB.out) (fun hHeld => ?_)
         generalize wr.drew = w117 at HO_265005 HO_266005 BK260 BK261 BK262 BK264 BK265 HB hHeld ⊢
         refine pure_ (i := 0) (N := some 62) (v := ?_) (a' := ?_) #[true, false, false, false, false, false] rfl rfl (by kernel_rfl) (fun _ _ _ h => h) (Or.inl ⟨by rfl, ?_⟩) ?_ ?_
         rotate_left
         ·intro w'
          go_simp
          with_reducible rfl
         rotate_left
         ·simp only [Act.put, List.setIfInBounds_toArray, List.set_cons_zero, List.set_cons_succ, i64_w, i32_w]
          rfl
         refine pure_ (i := 1) (N := some 63) (v := ?_) (a' := ?_) #[true, true, false, false, false, false] rfl rfl (by kernel_rfl) (fun _ _ _ h => h) (Or.inl ⟨by rfl, ?_⟩) ?_ ?_
         rotate_left
         ·intro w'
          go_simp
          with_reducible rfl
         rotate_left
         ·simp only [Act.put, List.setIfInBounds_toArray, List.set_cons_zero, List.set_cons_succ, i64_w, i32_w]
          rfl
         refine take_ (i := 2) (N := some 64) (v := ?_) (a' := ?_) #[true, true, true, false, false, false] rfl rfl (by kernel_rfl) (fun _ _ _ h => h) (Or.inl ⟨by rfl, ?_⟩) hHeld ?_ ?_
         rotate_left
         ·intro w' hS_
          try have hg0_ := ErrOk.g0 hS_ (by decide)
          try have hg1_ := ErrOk.g1 hS_ (by decide)
          clear hS_
          go_simp
          with_reducible rfl
         rotate_left
         ·simp only [Act.put, List.setIfInBounds_toArray, List.set_cons_zero, List.set_cons_succ, i64_w, i32_w]
          rfl
         refine one_ (i := 3) (N := none) #[true, true, true, true, false, false] rfl rfl (by kernel_rfl) (by decide) (fun K hK => ?_)
         have hs118 : w117.cell? ⟨gb261, 0, none⟩ = some (.bool false) := (blk_cell BK261.out 0).trans rfl
         have hfs118 := blk_frozen BK261.out 0
         have hns118_0 := NB260_261.out
         have hns118_2 := NB262_261.out
         have hns118_3 := NB264_261.out
         have hns118_4 := NB265_261.out
         have hms118_0 := NB261_260.out
         have hms118_2 := NB261_262.out
         have hms118_3 := NB261_264.out
         have hms118_4 := NB261_265.out
         have hs119 : w117.cell? ⟨gb261, 1, none⟩ = some (.bool false) := (blk_cell BK261.out 1).trans rfl
         have hfs119 := blk_frozen BK261.out 1
         have hs120 : w117.cell? ⟨gb261, 2, none⟩ = some (.int .i64 0) := (blk_cell BK261.out 2).trans rfl
         have hfs120 := blk_frozen BK261.out 2
         have hs121 : w117.cell? ⟨gb261, 3, none⟩ = some (.int .i64 0) := (blk_cell BK261.out 3).trans rfl
         have hfs121 := blk_frozen BK261.out 3
         have hs122 : w117.cell? ⟨gb261, 4, none⟩ = some (.int .i64 0) := (blk_cell BK261.out 4).trans rfl
         have hfs122 := blk_frozen BK261.out 4
         have hs123 : w117.cell? ⟨gb261, 5, none⟩ = some (.slice none 0 0) := (blk_cell BK261.out 5).trans rfl
         have hfs123 := blk_frozen BK261.out 5
         refine tsk ?_
         refine hK.out _ _ (by repeat (first | (with_reducible exact hHeld) | (with_reducible refine ErrOk.set HE.out ?_ (by with_reducible first | exact GE260.out | exact GE261.out | exact GE262.out | exact GE264.out | exact GE265.out | exact GE267.out) _ _))) (fun hHeld => ?_)
         clear hK K
         refine one_ (i := 4) (N := none) #[true, true, true, true, true, false] rfl rfl (by kernel_rfl) (by decide) (fun K hK => ?_)
         have hs124 : w117.cell? ⟨gb262, 0, none⟩ = some (.bool false) := (blk_cell BK262.out 0).trans rfl
         have hfs124 := blk_frozen BK262.out 0
         have hns124_0 := NB260_262.out
         have hns124_1 := NB261_262.out
         have hns124_3 := NB264_262.out
         have hns124_4 := NB265_262.out
         have hms124_0 := NB262_260.out
         have hms124_1 := NB262_261.out
         have hms124_3 := NB262_264.out
         have hms124_4 := NB262_265.out
         have hs125 : w117.cell? ⟨gb262, 1, none⟩ = some (.bool false) := (blk_cell BK262.out 1).trans rfl
         have hfs125 := blk_frozen BK262.out 1
         have hs126 : w117.cell? ⟨gb262, 2, none⟩ = some (.int .i64 0) := (blk_cell BK262.out 2).trans rfl
         have hfs126 := blk_frozen BK262.out 2
         have hs127 : w117.cell? ⟨gb262, 3, none⟩ = some (.int .i64 0) := (blk_cell BK262.out 3).trans rfl
         have hfs127 := blk_frozen BK262.out 3
         have hs128 : w117.cell? ⟨gb262, 4, none⟩ = some (.int .i64 0) := (blk_cell BK262.out 4).trans rfl
         have hfs128 := blk_frozen BK262.out 4
         have hs129 : w117.cell? ⟨gb262, 5, none⟩ = some (.slice none 0 0) := (blk_cell BK262.out 5).trans rfl
         have hfs129 := blk_frozen BK262.out 5
         refine tsk ?_
         refine hK.out _ _ (by repeat (first | (with_reducible exact hHeld) | (with_reducible refine ErrOk.set HE.out ?_ (by with_reducible first | exact GE260.out | exact GE261.out | exact GE262.out | exact GE264.out | exact GE265.out | exact GE267.out) _ _))) (fun hHeld => ?_)
         clear hK K
         refine pure_ (i := 5) (N := some 6) (v := ?_) (a' := ?_) #[true, true, true, true, true, true] rfl rfl (by kernel_rfl) (fun _ _ _ h => h) (Or.inl ⟨by rfl, ?_⟩) ?_ ?_
         rotate_left
         ·intro w'
          go_simp
          with_reducible rfl
         rotate_left
         ·simp only [Act.put, List.setIfInBounds_toArray, List.set_cons_zero, List.set_cons_succ, i64_w, i32_w]
          rfl
         refine done_ (by kernel_rfl) ?_
         try go_wp2
         refine bodyPost_ret (results_list (rs := [.cell 4 25, .cell 5 25, .tmp 6]) rfl (by simp) (.cell gb261 25 #[.bool false, .bool false, .int .i64 0, .int .i64 0, .int .i64 0, .slice none 0 0] (0, 0) _ rfl (tP BK261.out) Tryd.underlying25 rfl (by kernel_rfl) (.cell gb262 25 #[.bool false, .bool false, .int .i64 0, .int .i64 0, .int .i64 0, .slice none 0 0] (0, 0) _ rfl (tP BK262.out) Tryd.underlying25 rfl (by kernel_rfl) (.tmp .nil)))) rfl ?_
         exact ⟨_, _, by first | rfl | (simp [errW_none, errW_some] <;> rfl) | (simp [*, errW_none, errW_some] <;> rfl), by first | exact Kd.S_nil _ _ _ _ _ | exact Kd.N_nil _ _ _ _ _ | exact Kd.V_nil _ _ _ _ _ | exact Kd.Q_nil _ _ _ _ _ | exact Kd.R_nil _ _ _ _ _, by first | exact Kd.S_nil _ _ _ _ _ | exact Kd.N_nil _ _ _ _ _ | exact Kd.V_nil _ _ _ _ _ | exact Kd.Q_nil _ _ _ _ _ | exact Kd.R_nil _ _ _ _ _, zb⟩
        ·rw [if_neg c105] at H
         have c105b0 : ((x266005_2.length : Int) == 0) = false := beq_eq_false_iff_ne.mpr c105
         have c105b1 : ((x266005_2.length : Int) != 0) = true := bne_iff_ne.mpr c105
         have c105b2 : ¬ (x266005_2 = []) := fun h_ => c105 (by rw [h_]; rfl)
         simp only [Option.some.injEq, Prod.mk.injEq] at H
         obtain ⟨rfl, rfl, rfl, rfl, rfl, rfl, rfl, rfl, rfl, rfl, rfl, rfl, rfl⟩ := H
         have hnb130 := NB264_260.out
         have hnc130 := NB260_264.out
         have hnb131 := NB264_261.out
         have hnc131 := NB261_264.out
         have hnb132 := NB264_262.out
         have hnc132 := NB262_264.out
         have hnb133 := NB264_265.out
         have hnc133 := NB265_264.out
         obtain ⟨hcz134_0, hcz134_1, hcz134_2, hcz134_3, hcz134_4, hcz134_5, hfz134_0, hfz134_1, hfz134_2, hfz134_3, hfz134_4, hfz134_5⟩ := cells6 BK264.out
         obtain ⟨Ao135, co135, eo135⟩ := Kd.S_slice HO_265005.out
         subst eo135
         have hnb136 := NB265_260.out
         have hnc136 := NB260_265.out
         have hnb137 := NB265_261.out
         have hnc137 := NB261_265.out
         have hnb138 := NB265_262.out
         have hnc138 := NB262_265.out
         obtain ⟨hcz139_0, hcz139_1, hcz139_2, hcz139_3, hcz139_4, hcz139_5, hfz139_0, hfz139_1, hfz139_2, hfz139_3, hfz139_4, hfz139_5⟩ := cells6 BK265.out
         obtain ⟨Ao140, co140, eo140⟩ := Kd.S_slice HO_266005.out
         subst eo140
         try go_wp2
         replace HO_265005 := Aside0.mk (Kd.S_drew HO_265005.out)
         replace HO_266005 := Aside0.mk (Kd.S_drew HO_266005.out)
         replace BK260 := Aside0.mk (blk_drew BK260.out)
         replace BK261 := Aside0.mk (blk_drew BK261.out)
         replace BK262 := Aside0.mk (blk_drew BK262.out)
         replace BK264 := Aside0.mk (blk_drew BK264.out)
         replace BK265 := Aside0.mk (blk_drew BK265.out)
         replace HB := Aside0.mk (below_drew1 HB.out)
         refine start_ (n := 5) (S := fun w' => w'.cell? ⟨gb264, 0, none⟩ = some (.bool a0_0) ∧ w'.cell? ⟨gb264, 1, none⟩ = some (.bool false) ∧ w'.cell? ⟨gb264, 2, none⟩ = some (.int .i64 255) ∧ w'.cell? ⟨gb264, 3, none⟩ = some (.int .i64 0) ∧ w'.cell? ⟨gb264, 4, none⟩ = some (.int .i64 0) ∧ w'.cell? ⟨gb264, 5, none⟩ = some (.slice Ao135 x265005_2.length co135) ∧ w'.cell? ⟨gb265, 0, none⟩ = some (.bool a0_0) ∧ w'.cell? ⟨gb265, 1, none⟩ = some (.bool false) ∧ w'.cell? ⟨gb265, 2, none⟩ = some (.int .i64 255) ∧ w'.cell? ⟨gb265, 3, none⟩ = some (.int .i64 0) ∧ w'.cell? ⟨gb265, 4, none⟩ = some (.int .i64 0) ∧ w'.cell? ⟨gb265, 5, none⟩ = some (.slice Ao140 x266005_2.length co140)) (ds := []) #[false, false, false, false, false] (by kernel_rfl) rfl rfl ⟨(blk_cell BK264.out 0).trans rfl, (blk_cell BK264.out 1).trans rfl, (blk_cell BK264.out 2).trans rfl, (blk_cell BK264.out 3).trans rfl, (blk_cell BK264.out 4).trans rfl, (blk_cell BK264.out 5).trans rfl, (blk_cell BK265.out 0).trans rfl, (blk_cell BK265.out 1).trans rfl, (blk_cell BK265.out 2).trans rfl, (blk_cell BK265.out 3).trans rfl, (blk_cell BK265.out 4).trans rfl, (blk_cell BK265.out 5).trans rfl⟩ (fun hHeld => ?_)
         generalize wr.drew = w141 at HO_265005 HO_266005 BK260 BK261 BK262 BK264 BK265 HB hHeld ⊢
         refine take_ (i := 0) (N := some 65) (v := ?_) (a' := ?_) #[true, false, false, false, false] rfl rfl (by kernel_rfl) (fun _ _ _ h => h) (Or.inl ⟨by rfl, ?_⟩) hHeld ?_ ?_
         rotate_left
         ·rintro w' ⟨s0, s1, s2, s3, s4, s5, s6, s7, s8, s9, s10, s11⟩
          go_simp
          with_reducible rfl
         rotate_left
         ·simp only [Act.put, List.setIfInBounds_toArray, List.set_cons_zero, List.set_cons_succ, i64_w, i32_w]
          rfl
         refine take_ (i := 1) (N := some 66) (v := ?_) (a' := ?_) #[true, true, false, false, false] rfl rfl (by kernel_rfl) (fun _ _ _ h => h) (Or.inl ⟨by rfl, ?_⟩) hHeld ?_ ?_
         rotate_left
         ·rintro w' ⟨s0, s1, s2, s3, s4, s5, s6, s7, s8, s9, s10, s11⟩
          go_simp
          with_reducible rfl
         rotate_left
         ·simp only [Act.put, List.setIfInBounds_toArray, List.set_cons_zero, List.set_cons_succ, i64_w, i32_w]
          rfl
         refine one_ (i := 2) (N := none) #[true, true, true, false, false] rfl rfl (by kernel_rfl) (by decide) (fun K hK => ?_)
         have hs142 : w141.cell? ⟨gb261, 0, none⟩ = some (.bool false) := (blk_cell BK261.out 0).trans rfl
         have hfs142 := blk_frozen BK261.out 0
         have hns142_0 := NB260_261.out
         have hns142_2 := NB262_261.out
         have hns142_3 := NB264_261.out
         have hns142_4 := NB265_261.out
         have hms142_0 := NB261_260.out
         have hms142_2 := NB261_262.out
         have hms142_3 := NB261_264.out
         have hms142_4 := NB261_265.out
         have hs143 : w141.cell? ⟨gb261, 1, none⟩ = some (.bool false) := (blk_cell BK261.out 1).trans rfl
         have hfs143 := blk_frozen BK261.out 1
         have hs144 : w141.cell? ⟨gb261, 2, none⟩ = some (.int .i64 0) := (blk_cell BK261.out 2).trans rfl
         have hfs144 := blk_frozen BK261.out 2
         have hs145 : w141.cell? ⟨gb261, 3, none⟩ = some (.int .i64 0) := (blk_cell BK261.out 3).trans rfl
         have hfs145 := blk_frozen BK261.out 3
         have hs146 : w141.cell? ⟨gb261, 4, none⟩ = some (.int .i64 0) := (blk_cell BK261.out 4).trans rfl
         have hfs146 := blk_frozen BK261.out 4
         have hs147 : w141.cell? ⟨gb261, 5, none⟩ = some (.slice none 0 0) := (blk_cell BK261.out 5).trans rfl
         have hfs147 := blk_frozen BK261.out 5
         refine tsk ?_
         refine hK.out _ _ ⟨(tcg NB264_261.out hHeld.1), (tcg NB264_261.out hHeld.2.1), (tcg NB264_261.out hHeld.2.2.1), (tcg NB264_261.out hHeld.2.2.2.1), (tcg NB264_261.out hHeld.2.2.2.2.1), (tcg NB264_261.out hHeld.2.2.2.2.2.1), (tcg NB265_261.out hHeld.2.2.2.2.2.2.1), (tcg NB265_261.out hHeld.2.2.2.2.2.2.2.1), (tcg NB265_261.out hHeld.2.2.2.2.2.2.2.2.1), (tcg NB265_261.out hHeld.2.2.2.2.2.2.2.2.2.1), (tcg NB265_261.out hHeld.2.2.2.2.2.2.2.2.2.2.1), (tcg NB265_261.out hHeld.2.2.2.2.2.2.2.2.2.2.2)⟩ (fun hHeld => ?_)
         clear hK K
         refine one_ (i := 3) (N := none) #[true, true, true, true, false] rfl rfl (by kernel_rfl) (by decide) (fun K hK => ?_)
         have hs148 : w141.cell? ⟨gb262, 0, none⟩ = some (.bool false) := (blk_cell BK262.out 0).trans rfl
         have hfs148 := blk_frozen BK262.out 0
         have hns148_0 := NB260_262.out
         have hns148_1 := NB261_262.out
         have hns148_3 := NB264_262.out
         have hns148_4 := NB265_262.out
         have hms148_0 := NB262_260.out
         have hms148_1 := NB262_261.out
         have hms148_3 := NB262_264.out
         have hms148_4 := NB262_265.out
         have hs149 : w141.cell? ⟨gb262, 1, none⟩ = some (.bool false) := (blk_cell BK262.out 1).trans rfl
         have hfs149 := blk_frozen BK262.out 1
         have hs150 : w141.cell? ⟨gb262, 2, none⟩ = some (.int .i64 0) := (blk_cell BK262.out 2).trans rfl
         have hfs150 := blk_frozen BK262.out 2
         have hs151 : w141.cell? ⟨gb262, 3, none⟩ = some (.int .i64 0) := (blk_cell BK262.out 3).trans rfl
         have hfs151 := blk_frozen BK262.out 3
         have hs152 : w141.cell? ⟨gb262, 4, none⟩ = some (.int .i64 0) := (blk_cell BK262.out 4).trans rfl
         have hfs152 := blk_frozen BK262.out 4
         have hs153 : w141.cell? ⟨gb262, 5, none⟩ = some (.slice none 0 0) := (blk_cell BK262.out 5).trans rfl
         have hfs153 := blk_frozen BK262.out 5
         refine tsk ?_
         refine hK.out _ _ ⟨(tcg NB264_262.out hHeld.1), (tcg NB264_262.out hHeld.2.1), (tcg NB264_262.out hHeld.2.2.1), (tcg NB264_262.out hHeld.2.2.2.1), (tcg NB264_262.out hHeld.2.2.2.2.1), (tcg NB264_262.out hHeld.2.2.2.2.2.1), (tcg NB265_262.out hHeld.2.2.2.2.2.2.1), (tcg NB265_262.out hHeld.2.2.2.2.2.2.2.1), (tcg NB265_262.out hHeld.2.2.2.2.2.2.2.2.1), (tcg NB265_262.out hHeld.2.2.2.2.2.2.2.2.2.1), (tcg NB265_262.out hHeld.2.2.2.2.2.2.2.2.2.2.1), (tcg NB265_262.out hHeld.2.2.2.2.2.2.2.2.2.2.2)⟩ (fun hHeld => ?_)
         clear hK K
         refine pure_ (i := 4) (N := some 6) (v := ?_) (a' := ?_) #[true, true, true, true, true] rfl rfl (by kernel_rfl) (fun _ _ _ h => h) (Or.inl ⟨by rfl, ?_⟩) ?_ ?_
         rotate_left
         ·intro w'
          go_simp
          with_reducible rfl
         rotate_left
         ·simp only [Act.put, List.setIfInBounds_toArray, List.set_cons_zero, List.set_cons_succ, i64_w, i32_w]
          rfl
         refine done_ (by kernel_rfl) ?_
         try go_wp2
         refine bodyPost_ret (results_list (rs := [.cell 4 25, .cell 5 25, .tmp 6]) rfl (by simp) (.cell gb261 25 #[.bool a0_0, .bool false, .int .i64 255, .int .i64 0, .int .i64 0, .slice Ao135 x265005_2.length co135] (0, 0) _ rfl (tP BK261.out) Tryd.underlying25 rfl (by kernel_rfl) (.cell gb262 25 #[.bool a0_0, .bool false, .int .i64 255, .int .i64 0, .int .i64 0, .slice Ao140 x266005_2.length co140] (0, 0) _ rfl (tP BK262.out) Tryd.underlying25 rfl (by kernel_rfl) (.tmp .nil)))) rfl ?_
         exact ⟨_, _, by first | rfl | (simp [errW_none, errW_some] <;> rfl) | (simp [*, errW_none, errW_some] <;> rfl), tSm (Kd.S_types (Kd.S_types HO_265005.out BK261.out (by decide)) BK262.out (by decide)), tSm (Kd.S_types (Kd.S_types HO_266005.out BK261.out (by decide)) BK262.out (by decide)), zb⟩

end Go.Proofs.YtahenocndacjeaaDoor.G

namespace Go.Proofs.YtahenocndacjeaaDoor.G
open Go.RowKit Go.Proofs.YtahenocndacjeaaDoorW.PrintWords Go.Proofs.YtahenocndacjeaaDoorW.PrintLast Go.Proofs.YtahenocndacjeaaDoorW.PrintMore
attribute [local go_sem] max2_int min2_int max_two min_two max_three min_three max_four min_four   -- for this text's walks alone
set_option linter.unusedVariables false
set_option linter.unusedSimpArgs false

def impl_BatchCut.f (k : Nat) (a0_0 : Bool) (a0_1 : Bool) (a0_2 : Int) (a0_3 : Int) (a0_4 : Int) (l0_5 : List (S41)) (a1 : Int) : Option (Bool × Bool × Int × Int × Int × (List (S41)) × Bool × Bool × Int × Int × Int × (List (S41)) × Bool) := (impl_Batch_cut.f k a0_0 a0_1 a0_2 a0_3 a0_4 l0_5 a1).bind fun bt297 => ((errors_Is.f bt297.2.2.2.2.2.2.2.2.2.2.2.2 (some 1)).bind fun t316 => (if t316 = true then (some (false, false, 0, 0, 0, ([] : List (S41)), false, false, 0, 0, 0, ([] : List (S41)), false)) else (some (bt297.1, bt297.2.1, bt297.2.2.1, bt297.2.2.2.1, bt297.2.2.2.2.1, bt297.2.2.2.2.2.1, bt297.2.2.2.2.2.2.1, bt297.2.2.2.2.2.2.2.1, bt297.2.2.2.2.2.2.2.2.1, bt297.2.2.2.2.2.2.2.2.2.1, bt297.2.2.2.2.2.2.2.2.2.2.1, bt297.2.2.2.2.2.2.2.2.2.2.2.1, true))))
set_option maxHeartbeats 40000000 in
set_option maxRecDepth 100000 in
theorem impl_BatchCut.calls [ErrA] (k : Nat) (a0_0 : Bool) (a0_1 : Bool) (a0_2 : Int) (a0_3 : Int) (a0_4 : Int) (A0_5 : Option Addr) (c0_5 : Nat) (l0_5 : List (S41)) (a1 : Int) (r1 : Bool) (r2 : Bool) (r3 : Int) (r4 : Int) (r5 : Int) (r6 : List (S41)) (r7 : Bool) (r8 : Bool) (r9 : Int) (r10 : Int) (r11 : Int) (r12 : List (S41)) (r13 : Bool) (w : World) (hE : ErrOk [0] w) (hr0_5 : Kd.C k41 w A0_5 l0_5.length l0_5) (hc0_5 : l0_5.length ≤ c0_5) (h : impl_BatchCut.f k a0_0 a0_1 a0_2 a0_3 a0_4 l0_5 a1 = some (r1, r2, r3, r4, r5, r6, r7, r8, r9, r10, r11, r12, r13)) :
  Calls Tryd.prog 9 #[.agg #[.bool a0_0, .bool a0_1, .int .i64 a0_2, .int .i64 a0_3, .int .i64 a0_4, .slice A0_5 l0_5.length c0_5], .int .i64 a1] w fun e w' => ∃ v5_ v11_ : Value, e = .returned (.tuple #[.agg #[.bool r1, .bool r2, .int .i64 r3, .int .i64 r4, .int .i64 r5, v5_], .agg #[.bool r7, .bool r8, .int .i64 r9, .int .i64 r10, .int .i64 r11, v11_], .bool r13]) ∧ Kd.S k41 41 w' w.heap.size (fun k_ => some k_ ≠ (v11_ : Value).ownBlock) v5_ r6 ∧ Kd.S k41 41 w' w.heap.size (fun k_ => some k_ ≠ (v5_ : Value).ownBlock) v11_ r12 ∧ Below w.heap.size w w' := by
 have HE := Aside0.mk hE
 clear hE
 have hu25 := Tryd.underlying25
 have HR0_5 := Aside0.mk hr0_5
 have HC0_5 := Aside0.mk hc0_5
 clear hr0_5 hc0_5
 have HB := Aside0.mk (Below.refl w.heap.size w)
 have H : ((impl_Batch_cut.f k a0_0 a0_1 a0_2 a0_3 a0_4 l0_5 a1).bind fun bt297 => ((errors_Is.f bt297.2.2.2.2.2.2.2.2.2.2.2.2 (some 1)).bind fun t316 => (if t316 = true then (some (false, false, 0, 0, 0, ([] : List (S41)), false, false, 0, 0, 0, ([] : List (S41)), false)) else (some (bt297.1, bt297.2.1, bt297.2.2.1, bt297.2.2.2.1, bt297.2.2.2.2.1, bt297.2.2.2.2.2.1, bt297.2.2.2.2.2.2.1, bt297.2.2.2.2.2.2.2.1, bt297.2.2.2.2.2.2.2.2.1, bt297.2.2.2.2.2.2.2.2.2.1, bt297.2.2.2.2.2.2.2.2.2.2.1, bt297.2.2.2.2.2.2.2.2.2.2.2.1, true))))) = some (r1, r2, r3, r4, r5, r6, r7, r8, r9, r10, r11, r12, r13) := h
 clear h
 replace H := tbe H
 obtain ⟨⟨t297, t298, t299, t300, t301, t302, t305, t306, t307, t308, t309, t310, t313⟩, A3, H⟩ := H
 dsimp only at H
 replace H := tbe H
 obtain ⟨t316, A4, H⟩ := H
 by_cases c5 : t316 = true
 ·subst c5
  rw [if_pos rfl] at H
  simp only [Option.some.injEq, Prod.mk.injEq] at H
  obtain ⟨rfl, rfl, rfl, rfl, rfl, rfl, rfl, rfl, rfl, rfl, rfl, rfl, rfl⟩ := H
  go_enter Tryd.func9, Tryd.ntmps9
  go_wp2_with (first | ((with_reducible refine gate_dst (N := 18) rfl ?_); refine glob_ rfl (v := .iface 106 (.pointer (some (ErrA.errA 1)))) (g := 0) ?hr ?hc ?_; (case hc => exact ErrOk.g0 (ErrOk.below HE.out zb) (by decide)); (case hr => intro W_ hc_; go_simp)) | ((with_reducible refine gate_dst (N := 2) rfl ?_); refine box_event ?hg (N := 2) ?hd (cs := #[.bool a0_0, .bool a0_1, .int .i64 a0_2, .int .i64 a0_3, .int .i64 a0_4, .slice A0_5 l0_5.length c0_5]) (t := 25) ?hr ?_; (case hd => rfl); (case hg => rfl); (case hr => first | (go_simp; done) | (go_simp; rfl)); intro gb294 hg w6 hbox hb; have BK294 := Aside0.mk (hbox); have GW294 := tge HB hg; have GE294 := tge HB hg; replace HB := tBs HB hb; clear hb hbox hg) | ((with_reducible refine gate_dst (N := 4) rfl ?_); refine box_event ?hg (N := 4) ?hd (cs := #[.bool false, .bool false, .int .i64 0, .int .i64 0, .int .i64 0, .slice none 0 0]) (t := 25) ?hr ?_; (case hd => rfl); (case hg => rfl); (case hr => first | (go_simp; done) | (go_simp; rfl)); intro gb295 hg w7 hbox hb; have BK295 := Aside0.mk (hbox); have GW295 := tge HB hg; have GE295 := tge HB hg; replace HB := tBs HB hb; have NB294_295 := tlt BK294 hg; have NB295_294 := tgt BK294 hg; replace BK294 := tBb BK294 hb; clear hb hbox hg) | ((with_reducible refine gate_dst (N := 5) rfl ?_); refine box_event ?hg (N := 5) ?hd (cs := #[.bool false, .bool false, .int .i64 0, .int .i64 0, .int .i64 0, .slice none 0 0]) (t := 25) ?hr ?_; (case hd => rfl); (case hg => rfl); (case hr => first | (go_simp; done) | (go_simp; rfl)); intro gb296 hg w8 hbox hb; have BK296 := Aside0.mk (hbox); have GW296 := tge HB hg; have GE296 := tge HB hg; replace HB := tBs HB hb; have NB294_296 := tlt BK294 hg; have NB296_294 := tgt BK294 hg; replace BK294 := tBb BK294 hb; have NB295_296 := tlt BK295 hg; have NB296_295 := tgt BK295 hg; replace BK295 := tBb BK295 hb; clear hb hbox hg; have hnb9 := NB294_295.out; have hnc9 := NB295_294.out; have hnb10 := NB294_296.out; have hnc10 := NB296_294.out; obtain ⟨hcz11_0, hcz11_1, hcz11_2, hcz11_3, hcz11_4, hcz11_5, hfz11_0, hfz11_1, hfz11_2, hfz11_3, hfz11_4, hfz11_5⟩ := cells6 BK294.out) | ((with_reducible refine gate_callee (f := 26) rfl ?_); refine goesL_ (some 13) rfl rfl Tryd.func26 (by kernel_rfl) rfl #[.agg #[.bool a0_0, .bool a0_1, .int .i64 a0_2, .int .i64 a0_3, .int .i64 a0_4, .slice A0_5 l0_5.length c0_5], .int .i64 a1] rfl tq ?_; (with_reducible refine (impl_Batch_cut.calls (hE := ?sideE) k a0_0 a0_1 a0_2 a0_3 a0_4 _ _ l0_5 a1 t297 t298 t299 t300 t301 t302 t305 t306 t307 t308 t309 t310 t313 _ ?side1 ?side2 A3.out).mono ?_); (case sideE => exact ErrOk.below (HE.out.sub (by decide)) zb); (case side1 => exact tC (Kd.C_below HR0_5.out HB.out)); (case side2 => exact HC0_5.out); rintro e w12 ⟨v303, v311, rfl, ho0, ho1, hb⟩; have u_v303 := tsv Tryd.prog v303 ho0; have u_v311 := tsv Tryd.prog v311 ho1; refine ⟨_, rfl, ?_⟩; have HO304 := tSl ho0 HB; have HO312 := tSl ho1 HB; replace BK294 := tBb BK294 hb; replace BK295 := tBb BK295 hb; replace BK296 := tBb BK296 hb; replace HB := tBs HB hb; (try clear hb); (try clear hb2); (try clear hk); (try clear hi); (try clear ho0); (try clear ho1); (try simp only [errW_none, errW_some])) | ((with_reducible refine gate_dst (N := 7) rfl ?_); refine box_event ?hg (N := 7) ?hd (cs := #[.bool false, .bool false, .int .i64 0, .int .i64 0, .int .i64 0, .slice none 0 0]) (t := 25) ?hr ?_; (case hd => rfl); (case hg => rfl); (case hr => first | (go_simp; done) | (go_simp; rfl)); intro gb314 hg w13 hbox hb; replace HO304 := tSb HO304 hb; replace HO312 := tSb HO312 hb; have BK314 := Aside0.mk (hbox); have GW314 := tge HB hg; have GE314 := tge HB hg; replace HB := tBs HB hb; have NB294_314 := tlt BK294 hg; have NB314_294 := tgt BK294 hg; replace BK294 := tBb BK294 hb; have NB295_314 := tlt BK295 hg; have NB314_295 := tgt BK295 hg; replace BK295 := tBb BK295 hb; have NB296_314 := tlt BK296 hg; have NB314_296 := tgt BK296 hg; replace BK296 := tBb BK296 hb; clear hb hbox hg) | ((with_reducible refine gate_dst (N := 8) rfl ?_); refine box_event ?hg (N := 8) ?hd (cs := #[.bool false, .bool false, .int .i64 0, .int .i64 0, .int .i64 0, .slice none 0 0]) (t := 25) ?hr ?_; (case hd => rfl); (case hg => rfl); (case hr => first | (go_simp; done) | (go_simp; rfl)); intro gb315 hg w14 hbox hb; replace HO304 := tSb HO304 hb; replace HO312 := tSb HO312 hb; have BK315 := Aside0.mk (hbox); have GW315 := tge HB hg; have GE315 := tge HB hg; replace HB := tBs HB hb; have NB294_315 := tlt BK294 hg; have NB315_294 := tgt BK294 hg; replace BK294 := tBb BK294 hb; have NB295_315 := tlt BK295 hg; have NB315_295 := tgt BK295 hg; replace BK295 := tBb BK295 hb; have NB296_315 := tlt BK296 hg; have NB315_296 := tgt BK296 hg; replace BK296 := tBb BK296 hb; have NB314_315 := tlt BK314 hg; have NB315_314 := tgt BK314 hg; replace BK314 := tBb BK314 hb; clear hb hbox hg; have hnb15 := NB314_294.out; have hnc15 := NB294_314.out; have hnb16 := NB314_295.out; have hnc16 := NB295_314.out; have hnb17 := NB314_296.out; have hnc17 := NB296_314.out; have hnb18 := NB314_315.out; have hnc18 := NB315_314.out; obtain ⟨hcz19_0, hcz19_1, hcz19_2, hcz19_3, hcz19_4, hcz19_5, hfz19_0, hfz19_1, hfz19_2, hfz19_3, hfz19_4, hfz19_5⟩ := cells6 BK314.out; obtain ⟨Ao20, co20, eo20⟩ := Kd.S_slice HO304.out; subst eo20; have hnb21 := NB315_294.out; have hnc21 := NB294_315.out; have hnb22 := NB315_295.out; have hnc22 := NB295_315.out; have hnb23 := NB315_296.out; have hnc23 := NB296_315.out; obtain ⟨hcz24_0, hcz24_1, hcz24_2, hcz24_3, hcz24_4, hcz24_5, hfz24_0, hfz24_1, hfz24_2, hfz24_3, hfz24_4, hfz24_5⟩ := cells6 BK315.out; obtain ⟨Ao25, co25, eo25⟩ := Kd.S_slice HO312.out; subst eo25; have CA4 := fun W => errors_Is.calls t313 (some 1) true W A4.out; try simp only [errW_none, errW_some] at CA4) | (go_at_call 27; (with_reducible refine (CA4 _).mono ?_); rintro e w26 ⟨rfl, hb⟩; replace HO304 := Aside0.mk (Kd.S_below (by (with_reducible repeat (first | apply Kd.S_alloc | apply Kd.S_drewN | apply Kd.S_drew)); exact (Kd.S_mono (Kd.S_mono (Kd.S_far (p := ⟨gb315, 5, none⟩) (Kd.S_far (p := ⟨gb315, 4, none⟩) (Kd.S_far (p := ⟨gb315, 3, none⟩) (Kd.S_far (p := ⟨gb315, 2, none⟩) (Kd.S_far (p := ⟨gb315, 1, none⟩) (Kd.S_far (p := ⟨gb315, 0, none⟩) (Kd.S_far (p := ⟨gb314, 5, none⟩) (Kd.S_far (p := ⟨gb314, 4, none⟩) (Kd.S_far (p := ⟨gb314, 3, none⟩) (Kd.S_far (p := ⟨gb314, 2, none⟩) (Kd.S_far (p := ⟨gb314, 1, none⟩) (Kd.S_far (p := ⟨gb314, 0, none⟩) (Kd.S_types (Kd.S_types HO304.out BK314.out (by decide)) BK315.out (by decide)) (fun _ hk => hk.1.2) (.bool t297)) (fun _ hk => hk.1.2) (.bool t298)) (fun _ hk => hk.1.2) (.int .i64 t299)) (fun _ hk => hk.1.2) (.int .i64 t300)) (fun _ hk => hk.1.2) (.int .i64 t301)) (fun _ hk => hk.1.2) (.slice Ao20 t302.length co20)) (fun _ hk => hk.2) (.bool t305)) (fun _ hk => hk.2) (.bool t306)) (fun _ hk => hk.2) (.int .i64 t307)) (fun _ hk => hk.2) (.int .i64 t308)) (fun _ hk => hk.2) (.int .i64 t309)) (fun _ hk => hk.2) (.slice Ao25 t310.length co25)) (fun _ h_ => h_.1)) (fun _ h_ => h_.1))) hb); replace HO312 := Aside0.mk (Kd.S_below (by (with_reducible repeat (first | apply Kd.S_alloc | apply Kd.S_drewN | apply Kd.S_drew)); exact (Kd.S_mono (Kd.S_mono (Kd.S_far (p := ⟨gb315, 5, none⟩) (Kd.S_far (p := ⟨gb315, 4, none⟩) (Kd.S_far (p := ⟨gb315, 3, none⟩) (Kd.S_far (p := ⟨gb315, 2, none⟩) (Kd.S_far (p := ⟨gb315, 1, none⟩) (Kd.S_far (p := ⟨gb315, 0, none⟩) (Kd.S_far (p := ⟨gb314, 5, none⟩) (Kd.S_far (p := ⟨gb314, 4, none⟩) (Kd.S_far (p := ⟨gb314, 3, none⟩) (Kd.S_far (p := ⟨gb314, 2, none⟩) (Kd.S_far (p := ⟨gb314, 1, none⟩) (Kd.S_far (p := ⟨gb314, 0, none⟩) (Kd.S_types (Kd.S_types HO312.out BK314.out (by decide)) BK315.out (by decide)) (fun _ hk => hk.1.2) (.bool t297)) (fun _ hk => hk.1.2) (.bool t298)) (fun _ hk => hk.1.2) (.int .i64 t299)) (fun _ hk => hk.1.2) (.int .i64 t300)) (fun _ hk => hk.1.2) (.int .i64 t301)) (fun _ hk => hk.1.2) (.slice Ao20 t302.length co20)) (fun _ hk => hk.2) (.bool t305)) (fun _ hk => hk.2) (.bool t306)) (fun _ hk => hk.2) (.int .i64 t307)) (fun _ hk => hk.2) (.int .i64 t308)) (fun _ hk => hk.2) (.int .i64 t309)) (fun _ hk => hk.2) (.slice Ao25 t310.length co25)) (fun _ h_ => h_.1)) (fun _ h_ => h_.1))) hb); replace BK294 := tBb BK294 hb; replace BK295 := tBb BK295 hb; replace BK296 := tBb BK296 hb; replace BK314 := tBp (o' := .cells #[.bool t297, .bool t298, .int .i64 t299, .int .i64 t300, .int .i64 t301, .slice Ao20 t302.length co20] 25 (0, 0)) BK314 hb; replace BK315 := tBp (o' := .cells #[.bool t305, .bool t306, .int .i64 t307, .int .i64 t308, .int .i64 t309, .slice Ao25 t310.length co25] 25 (0, 0)) BK315 hb; replace HB := tBs HB hb; (try clear hb); (try clear hb2); (try clear hk); (try clear hi); have hnb27 := NB295_296.out; have hnc27 := NB296_295.out; obtain ⟨hcz28_0, hcz28_1, hcz28_2, hcz28_3, hcz28_4, hcz28_5, hfz28_0, hfz28_1, hfz28_2, hfz28_3, hfz28_4, hfz28_5⟩ := cells6 BK295.out; obtain ⟨hcz29_0, hcz29_1, hcz29_2, hcz29_3, hcz29_4, hcz29_5, hfz29_0, hfz29_1, hfz29_2, hfz29_3, hfz29_4, hfz29_5⟩ := cells6 BK296.out))
  refine bodyPost_ret (results_list (rs := [.cell 4 25, .cell 5 25, .tmp 6]) rfl (by simp) (.cell gb295 25 #[.bool false, .bool false, .int .i64 0, .int .i64 0, .int .i64 0, .slice none 0 0] (0, 0) _ rfl (tP BK295.out) Tryd.underlying25 rfl (by kernel_rfl) (.cell gb296 25 #[.bool false, .bool false, .int .i64 0, .int .i64 0, .int .i64 0, .slice none 0 0] (0, 0) _ rfl (tP BK296.out) Tryd.underlying25 rfl (by kernel_rfl) (.tmp .nil)))) rfl ?_
  exact ⟨_, _, by first | rfl | (simp [errW_none, errW_some] <;> rfl) | (simp [*, errW_none, errW_some] <;> rfl), by first | exact Kd.S_nil _ _ _ _ _ | exact Kd.N_nil _ _ _ _ _ | exact Kd.V_nil _ _ _ _ _ | exact Kd.Q_nil _ _ _ _ _ | exact Kd.R_nil _ _ _ _ _, by first | exact Kd.S_nil _ _ _ _ _ | exact Kd.N_nil _ _ _ _ _ | exact Kd.V_nil _ _ _ _ _ | exact Kd.Q_nil _ _ _ _ _ | exact Kd.R_nil _ _ _ _ _, zb⟩
 ·replace c5 := Bool.eq_false_iff.mpr c5
  subst c5
  rw [if_neg (show ¬ (false = true) by decide)] at H
  simp only [Option.some.injEq, Prod.mk.injEq] at H
  obtain ⟨rfl, rfl, rfl, rfl, rfl, rfl, rfl, rfl, rfl, rfl, rfl, rfl, rfl⟩ := H
  go_enter Tryd.func9, Tryd.ntmps9
  try go_wp2_with (first | ((with_reducible refine gate_dst (N := 18) rfl ?_); refine glob_ rfl (v := .iface 106 (.pointer (some (ErrA.errA 1)))) (g := 0) ?hr ?hc ?_; (case hc => exact ErrOk.g0 (ErrOk.below HE.out zb) (by decide)); (case hr => intro W_ hc_; go_simp)) | ((with_reducible refine gate_dst (N := 2) rfl ?_); refine box_event ?hg (N := 2) ?hd (cs := #[.bool a0_0, .bool a0_1, .int .i64 a0_2, .int .i64 a0_3, .int .i64 a0_4, .slice A0_5 l0_5.length c0_5]) (t := 25) ?hr ?_; (case hd => rfl); (case hg => rfl); (case hr => first | (go_simp; done) | (go_simp; rfl)); intro gb294 hg w30 hbox hb; have BK294 := Aside0.mk (hbox); have GW294 := tge HB hg; have GE294 := tge HB hg; replace HB := tBs HB hb; clear hb hbox hg) | ((with_reducible refine gate_dst (N := 4) rfl ?_); refine box_event ?hg (N := 4) ?hd (cs := #[.bool false, .bool false, .int .i64 0, .int .i64 0, .int .i64 0, .slice none 0 0]) (t := 25) ?hr ?_; (case hd => rfl); (case hg => rfl); (case hr => first | (go_simp; done) | (go_simp; rfl)); intro gb295 hg w31 hbox hb; have BK295 := Aside0.mk (hbox); have GW295 := tge HB hg; have GE295 := tge HB hg; replace HB := tBs HB hb; have NB294_295 := tlt BK294 hg; have NB295_294 := tgt BK294 hg; replace BK294 := tBb BK294 hb; clear hb hbox hg) | ((with_reducible refine gate_dst (N := 5) rfl ?_); refine box_event ?hg (N := 5) ?hd (cs := #[.bool false, .bool false, .int .i64 0, .int .i64 0, .int .i64 0, .slice none 0 0]) (t := 25) ?hr ?_; (case hd => rfl); (case hg => rfl); (case hr => first | (go_simp; done) | (go_simp; rfl)); intro gb296 hg w32 hbox hb; have BK296 := Aside0.mk (hbox); have GW296 := tge HB hg; have GE296 := tge HB hg; replace HB := tBs HB hb; have NB294_296 := tlt BK294 hg; have NB296_294 := tgt BK294 hg; replace BK294 := tBb BK294 hb; have NB295_296 := tlt BK295 hg; have NB296_295 := tgt BK295 hg; replace BK295 := tBb BK295 hb; clear hb hbox hg; have hnb33 := NB294_295.out; have hnc33 := NB295_294.out; have hnb34 := NB294_296.out; have hnc34 := NB296_294.out; obtain ⟨hcz35_0, hcz35_1, hcz35_2, hcz35_3, hcz35_4, hcz35_5, hfz35_0, hfz35_1, hfz35_2, hfz35_3, hfz35_4, hfz35_5⟩ := cells6 BK294.out) | ((with_reducible refine gate_callee (f := 26) rfl ?_); refine goesL_ (some 13) rfl rfl Tryd.func26 (by kernel_rfl) rfl #[.agg #[.bool a0_0, .bool a0_1, .int .i64 a0_2, .int .i64 a0_3, .int .i64 a0_4, .slice A0_5 l0_5.length c0_5], .int .i64 a1] rfl tq ?_; (with_reducible refine (impl_Batch_cut.calls (hE := ?sideE) k a0_0 a0_1 a0_2 a0_3 a0_4 _ _ l0_5 a1 t297 t298 t299 t300 t301 t302 t305 t306 t307 t308 t309 t310 t313 _ ?side1 ?side2 A3.out).mono ?_); (case sideE => exact ErrOk.below (HE.out.sub (by decide)) zb); (case side1 => exact tC (Kd.C_below HR0_5.out HB.out)); (case side2 => exact HC0_5.out); rintro e w36 ⟨v303, v311, rfl, ho0, ho1, hb⟩; have u_v303 := tsv Tryd.prog v303 ho0; have u_v311 := tsv Tryd.prog v311 ho1; refine ⟨_, rfl, ?_⟩; have HO304 := tSl ho0 HB; have HO312 := tSl ho1 HB; replace BK294 := tBb BK294 hb; replace BK295 := tBb BK295 hb; replace BK296 := tBb BK296 hb; replace HB := tBs HB hb; (try clear hb); (try clear hb2); (try clear hk); (try clear hi); (try clear ho0); (try clear ho1); (try simp only [errW_none, errW_some])) | ((with_reducible refine gate_dst (N := 7) rfl ?_); refine box_event ?hg (N := 7) ?hd (cs := #[.bool false, .bool false, .int .i64 0, .int .i64 0, .int .i64 0, .slice none 0 0]) (t := 25) ?hr ?_; (case hd => rfl); (case hg => rfl); (case hr => first | (go_simp; done) | (go_simp; rfl)); intro gb314 hg w37 hbox hb; replace HO304 := tSb HO304 hb; replace HO312 := tSb HO312 hb; have BK314 := Aside0.mk (hbox); have GW314 := tge HB hg; have GE314 := tge HB hg; replace HB := tBs HB hb; have NB294_314 := tlt BK294 hg; have NB314_294 := tgt BK294 hg; replace BK294 := tBb BK294 hb; have NB295_314 := tlt BK295 hg; have NB314_295 := tgt BK295 hg; replace BK295 := tBb BK295 hb; have NB296_314 := tlt BK296 hg; have NB314_296 := tgt BK296 hg; replace BK296 := tBb BK296 hb; clear hb hbox hg) | ((with_reducible refine gate_dst (N := 8) rfl ?_); refine box_event ?hg (N := 8) ?hd (cs := #[.bool false, .bool false, .int .i64 0, .int .i64 0, .int .i64 0, .slice none 0 0]) (t := 25) ?hr ?_; (case hd => rfl); (case hg => rfl); (case hr => first | (go_simp; done) | (go_simp; rfl)); intro gb315 hg w38 hbox hb; replace HO304 := tSb HO304 hb; replace HO312 := tSb HO312 hb; have BK315 := Aside0.mk (hbox); have GW315 := tge HB hg; have GE315 := tge HB hg; replace HB := tBs HB hb; have NB294_315 := tlt BK294 hg; have NB315_294 := tgt BK294 hg; replace BK294 := tBb BK294 hb; have NB295_315 := tlt BK295 hg; have NB315_295 := tgt BK295 hg; replace BK295 := tBb BK295 hb; have NB296_315 := tlt BK296 hg; have NB315_296 := tgt BK296 hg; replace BK296 := tBb BK296 hb; have NB314_315 := tlt BK314 hg; have NB315_314 := tgt BK314 hg; replace BK314 := tBb BK314 hb; clear hb hbox hg; have hnb39 := NB314_294.out; have hnc39 := NB294_314.out; have hnb40 := NB314_295.out; have hnc40 := NB295_314.out; have hnb41 := NB314_296.out; have hnc41 := NB296_314.out; have hnb42 := NB314_315.out; have hnc42 := NB315_314.out; obtain ⟨hcz43_0, hcz43_1, hcz43_2, hcz43_3, hcz43_4, hcz43_5, hfz43_0, hfz43_1, hfz43_2, hfz43_3, hfz43_4, hfz43_5⟩ := cells6 BK314.out; obtain ⟨Ao44, co44, eo44⟩ := Kd.S_slice HO304.out; subst eo44; have hnb45 := NB315_294.out; have hnc45 := NB294_315.out; have hnb46 := NB315_295.out; have hnc46 := NB295_315.out; have hnb47 := NB315_296.out; have hnc47 := NB296_315.out; obtain ⟨hcz48_0, hcz48_1, hcz48_2, hcz48_3, hcz48_4, hcz48_5, hfz48_0, hfz48_1, hfz48_2, hfz48_3, hfz48_4, hfz48_5⟩ := cells6 BK315.out; obtain ⟨Ao49, co49, eo49⟩ := Kd.S_slice HO312.out; subst eo49; have CA4 := fun W => errors_Is.calls t313 (some 1) false W A4.out; try simp only [errW_none, errW_some] at CA4) | (go_at_call 27; (with_reducible refine (CA4 _).mono ?_); rintro e w50 ⟨rfl, hb⟩; replace HO304 := Aside0.mk (Kd.S_below (by (with_reducible repeat (first | apply Kd.S_alloc | apply Kd.S_drewN | apply Kd.S_drew)); exact (Kd.S_mono (Kd.S_mono (Kd.S_far (p := ⟨gb315, 5, none⟩) (Kd.S_far (p := ⟨gb315, 4, none⟩) (Kd.S_far (p := ⟨gb315, 3, none⟩) (Kd.S_far (p := ⟨gb315, 2, none⟩) (Kd.S_far (p := ⟨gb315, 1, none⟩) (Kd.S_far (p := ⟨gb315, 0, none⟩) (Kd.S_far (p := ⟨gb314, 5, none⟩) (Kd.S_far (p := ⟨gb314, 4, none⟩) (Kd.S_far (p := ⟨gb314, 3, none⟩) (Kd.S_far (p := ⟨gb314, 2, none⟩) (Kd.S_far (p := ⟨gb314, 1, none⟩) (Kd.S_far (p := ⟨gb314, 0, none⟩) (Kd.S_types (Kd.S_types HO304.out BK314.out (by decide)) BK315.out (by decide)) (fun _ hk => hk.1.2) (.bool t297)) (fun _ hk => hk.1.2) (.bool t298)) (fun _ hk => hk.1.2) (.int .i64 t299)) (fun _ hk => hk.1.2) (.int .i64 t300)) (fun _ hk => hk.1.2) (.int .i64 t301)) (fun _ hk => hk.1.2) (.slice Ao44 t302.length co44)) (fun _ hk => hk.2) (.bool t305)) (fun _ hk => hk.2) (.bool t306)) (fun _ hk => hk.2) (.int .i64 t307)) (fun _ hk => hk.2) (.int .i64 t308)) (fun _ hk => hk.2) (.int .i64 t309)) (fun _ hk => hk.2) (.slice Ao49 t310.length co49)) (fun _ h_ => h_.1)) (fun _ h_ => h_.1))) hb); replace HO312 := Aside0.mk (Kd.S_below (by (with_reducible repeat (first | apply Kd.S_alloc | apply Kd.S_drewN | apply Kd.S_drew)); exact (Kd.S_mono (Kd.S_mono (Kd.S_far (p := ⟨gb315, 5, none⟩) (Kd.S_far (p := ⟨gb315, 4, none⟩) (Kd.S_far (p := ⟨gb315, 3, none⟩) (Kd.S_far (p := ⟨gb315, 2, none⟩) (Kd.S_far (p := ⟨gb315, 1, none⟩) (Kd.S_far (p := ⟨gb315, 0, none⟩) (Kd.S_far (p := ⟨gb314, 5, none⟩) (Kd.S_far (p := ⟨gb314, 4, none⟩) (Kd.S_far (p := ⟨gb314, 3, none⟩) (Kd.S_far (p := ⟨gb314, 2, none⟩) (Kd.S_far (p := ⟨gb314, 1, none⟩) (Kd.S_far (p := ⟨gb314, 0, none⟩) (Kd.S_types (Kd.S_types HO312.out BK314.out (by decide)) BK315.out (by decide)) (fun _ hk => hk.1.2) (.bool t297)) (fun _ hk => hk.1.2) (.bool t298)) (fun _ hk => hk.1.2) (.int .i64 t299)) (fun _ hk => hk.1.2) (.int .i64 t300)) (fun _ hk => hk.1.2) (.int .i64 t301)) (fun _ hk => hk.1.2) (.slice Ao44 t302.length co44)) (fun _ hk => hk.2) (.bool t305)) (fun _ hk => hk.2) (.bool t306)) (fun _ hk => hk.2) (.int .i64 t307)) (fun _ hk => hk.2) (.int .i64 t308)) (fun _ hk => hk.2) (.int .i64 t309)) (fun _ hk => hk.2) (.slice Ao49 t310.length co49)) (fun _ h_ => h_.1)) (fun _ h_ => h_.1))) hb); replace BK294 := tBb BK294 hb; replace BK295 := tBb BK295 hb; replace BK296 := tBb BK296 hb; replace BK314 := tBp (o' := .cells #[.bool t297, .bool t298, .int .i64 t299, .int .i64 t300, .int .i64 t301, .slice Ao44 t302.length co44] 25 (0, 0)) BK314 hb; replace BK315 := tBp (o' := .cells #[.bool t305, .bool t306, .int .i64 t307, .int .i64 t308, .int .i64 t309, .slice Ao49 t310.length co49] 25 (0, 0)) BK315 hb; replace HB := tBs HB hb; (try clear hb); (try clear hb2); (try clear hk); (try clear hi)))
  replace HO304 := Aside0.mk (Kd.S_drew HO304.out)
  replace HO312 := Aside0.mk (Kd.S_drew HO312.out)
  replace BK294 := Aside0.mk (blk_drew BK294.out)
  replace BK295 := Aside0.mk (blk_drew BK295.out)
  replace BK296 := Aside0.mk (blk_drew BK296.out)
  replace BK314 := Aside0.mk (blk_drew BK314.out)
  replace BK315 := Aside0.mk (blk_drew BK315.out)
  replace HB := Aside0.mk (below_drew1 HB.out)
  refine start_ (n := 5) (S := fun w' => w'.cell? ⟨gb314, 0, none⟩ = some (.bool t297) ∧ w'.cell? ⟨gb314, 1, none⟩ = some (.bool t298) ∧ w'.cell? ⟨gb314, 2, none⟩ = some (.int .i64 t299) ∧ w'.cell? ⟨gb314, 3, none⟩ = some (.int .i64 t300) ∧ w'.cell? ⟨gb314, 4, none⟩ = some (.int .i64 t301) ∧ w'.cell? ⟨gb314, 5, none⟩ = some (.slice Ao44 t302.length co44) ∧ w'.cell? ⟨gb315, 0, none⟩ = some (.bool t305) ∧ w'.cell? ⟨gb315, 1, none⟩ = some (.bool t306) ∧ w'.cell? ⟨gb315, 2, none⟩ = some (.int .i64 t307) ∧ w'.cell? ⟨gb315, 3, none⟩ = some (.int .i64 t308) ∧ w'.cell? ⟨gb315, 4, none⟩ = some (.int .i64 t309) ∧ w'.cell? ⟨gb315, 5, none⟩ = some (.slice Ao49 t310.length co49)) (ds := []) #[false, false, false, false, false] (by kernel_rfl) rfl rfl ⟨(blk_cell BK314.out 0).trans rfl, (blk_cell BK314.out 1).trans rfl, (blk_cell BK314.out 2).trans rfl, (blk_cell BK314.out 3).trans rfl, (blk_cell BK314.out 4).trans rfl, (blk_cell BK314.out 5).trans rfl, (blk_cell BK315.out 0).trans rfl, (blk_cell BK315.out 1).trans rfl, (blk_cell BK315.out 2).trans rfl, (blk_cell BK315.out 3).trans rfl, (blk_cell BK315.out 4).trans rfl, (blk_cell BK315.out 5).trans rfl⟩ (fun hHeld => ?_)
  generalize w50.drew = w51 at HO304 HO312 BK294 BK295 BK296 BK314 BK315 HB hHeld ⊢
  refine take_ (i := 0) (N := some 22) (v := ?_) (a' := ?_) #[true, false, false, false, false] rfl rfl (by kernel_rfl) (fun _ _ _ h => h) (Or.inl ⟨by rfl, ?_⟩) hHeld ?_ ?_
  rotate_left
  ·rintro w' ⟨s0, s1, s2, s3, s4, s5, s6, s7, s8, s9, s10, s11⟩
   go_simp
   with_reducible rfl
  rotate_left
  ·simp only [Act.put, List.setIfInBounds_toArray, List.set_cons_zero, List.set_cons_succ, i64_w, i32_w]
   rfl
  refine take_ (i := 1) (N := some 23) (v := ?_) (a' := ?_) #[true, true, false, false, false] rfl rfl (by kernel_rfl) (fun _ _ _ h => h) (Or.inl ⟨by rfl, ?_⟩) hHeld ?_ ?_
  rotate_left
  ·rintro w' ⟨s0, s1, s2, s3, s4, s5, s6, s7, s8, s9, s10, s11⟩
   go_simp
   with_reducible rfl
  rotate_left
  ·simp only [Act.put, List.setIfInBounds_toArray, List.set_cons_zero, List.set_cons_succ, i64_w, i32_w]
   rfl
  refine one_ (i := 2) (N := none) #[true, true, true, false, false] rfl rfl (by kernel_rfl) (by decide) (fun K hK => ?_)
  have hs52 : w51.cell? ⟨gb295, 0, none⟩ = some (.bool false) := (blk_cell BK295.out 0).trans rfl
  have hfs52 := blk_frozen BK295.out 0
  have hns52_0 := NB294_295.out
  have hns52_2 := NB296_295.out
  have hns52_3 := NB314_295.out
  have hns52_4 := NB315_295.out
  have hms52_0 := NB295_294.out
  have hms52_2 := NB295_296.out
  have hms52_3 := NB295_314.out
  have hms52_4 := NB295_315.out
  have hs53 : w51.cell? ⟨gb295, 1, none⟩ = some (.bool false) := (blk_cell BK295.out 1).trans rfl
  have hfs53 := blk_frozen BK295.out 1
  have hs54 : w51.cell? ⟨gb295, 2, none⟩ = some (.int .i64 0) := (blk_cell BK295.out 2).trans rfl
  have hfs54 := blk_frozen BK295.out 2
  have hs55 : w51.cell? ⟨gb295, 3, none⟩ = some (.int .i64 0) := (blk_cell BK295.out 3).trans rfl
  have hfs55 := blk_frozen BK295.out 3
  have hs56 : w51.cell? ⟨gb295, 4, none⟩ = some (.int .i64 0) := (blk_cell BK295.out 4).trans rfl
  have hfs56 := blk_frozen BK295.out 4
  have hs57 : w51.cell? ⟨gb295, 5, none⟩ = some (.slice none 0 0) := (blk_cell BK295.out 5).trans rfl
  have hfs57 := blk_frozen BK295.out 5
  refine tsk ?_
  refine hK.out _ _ ⟨(tcg NB314_295.out hHeld.1), (tcg NB314_295.out hHeld.2.1), (tcg NB314_295.out hHeld.2.2.1), (tcg NB314_295.out hHeld.2.2.2.1), (tcg NB314_295.out hHeld.2.2.2.2.1), (tcg NB314_295.out hHeld.2.2.2.2.2.1), (tcg NB315_295.out hHeld.2.2.2.2.2.2.1), (tcg NB315_295.out hHeld.2.2.2.2.2.2.2.1), (tcg NB315_295.out hHeld.2.2.2.2.2.2.2.2.1), (tcg NB315_295.out hHeld.2.2.2.2.2.2.2.2.2.1), (tcg NB315_295.out hHeld.2.2.2.2.2.2.2.2.2.2.1), (tcg NB315_295.out hHeld.2.2.2.2.2.2.2.2.2.2.2)⟩ (fun hHeld => ?_)
  clear hK K
  refine one_ (i := 3) (N := none) #[true, true, true, true, false] rfl rfl (by kernel_rfl) (by decide) (fun K hK => ?_)
  have hs58 : w51.cell? ⟨gb296, 0, none⟩ = some (.bool false) := (blk_cell BK296.out 0).trans rfl
  have hfs58 := blk_frozen BK296.out 0
  have hns58_0 := NB294_296.out
  have hns58_1 := NB295_296.out
  have hns58_3 := NB314_296.out
  have hns58_4 := NB315_296.out
  have hms58_0 := NB296_294.out
  have hms58_1 := NB296_295.out
  have hms58_3 := NB296_314.out
  have hms58_4 := NB296_315.out
  have hs59 : w51.cell? ⟨gb296, 1, none⟩ = some (.bool false) := (blk_cell BK296.out 1).trans rfl
  have hfs59 := blk_frozen BK296.out 1
  have hs60 : w51.cell? ⟨gb296, 2, none⟩ = some (.int .i64 0) := (blk_cell BK296.out 2).trans rfl
  have hfs60 := blk_frozen BK296.out 2
  have hs61 : w51.cell? ⟨gb296, 3, none⟩ = some (.int .i64 0) := (blk_cell BK296.out 3).trans rfl
  have hfs61 := blk_frozen BK296.out 3
  have hs62 : w51.cell? ⟨gb296, 4, none⟩ = some (.int .i64 0) := (blk_cell BK296.out 4).trans rfl
  have hfs62 := blk_frozen BK296.out 4
  have hs63 : w51.cell? ⟨gb296, 5, none⟩ = some (.slice none 0 0) := (blk_cell BK296.out 5).trans rfl
  have hfs63 := blk_frozen BK296.out 5
  refine tsk ?_
  refine hK.out _ _ ⟨(tcg NB314_296.out hHeld.1), (tcg NB314_296.out hHeld.2.1), (tcg NB314_296.out hHeld.2.2.1), (tcg NB314_296.out hHeld.2.2.2.1), (tcg NB314_296.out hHeld.2.2.2.2.1), (tcg NB314_296.out hHeld.2.2.2.2.2.1), (tcg NB315_296.out hHeld.2.2.2.2.2.2.1), (tcg NB315_296.out hHeld.2.2.2.2.2.2.2.1), (tcg NB315_296.out hHeld.2.2.2.2.2.2.2.2.1), (tcg NB315_296.out hHeld.2.2.2.2.2.2.2.2.2.1), (tcg NB315_296.out hHeld.2.2.2.2.2.2.2.2.2.2.1), (tcg NB315_296.out hHeld.2.2.2.2.2.2.2.2.2.2.2)⟩ (fun hHeld => ?_)
  clear hK K
  refine pure_ (i := 4) (N := some 6) (v := ?_) (a' := ?_) #[true, true, true, true, true] rfl rfl (by kernel_rfl) (fun _ _ _ h => h) (Or.inl ⟨by rfl, ?_⟩) ?_ ?_
  rotate_left
  ·intro w'
   go_simp
   with_reducible rfl
  rotate_left
  ·simp only [Act.put, List.setIfInBounds_toArray, List.set_cons_zero, List.set_cons_succ, i64_w, i32_w]
   rfl
  refine done_ (by kernel_rfl) ?_
  try go_wp2
  refine bodyPost_ret (results_list (rs := [.cell 4 25, .cell 5 25, .tmp 6]) rfl (by simp) (.cell gb295 25 #[.bool t297, .bool t298, .int .i64 t299, .int .i64 t300, .int .i64 t301, .slice Ao44 t302.length co44] (0, 0) _ rfl (tP BK295.out) Tryd.underlying25 rfl (by kernel_rfl) (.cell gb296 25 #[.bool t305, .bool t306, .int .i64 t307, .int .i64 t308, .int .i64 t309, .slice Ao49 t310.length co49] (0, 0) _ rfl (tP BK296.out) Tryd.underlying25 rfl (by kernel_rfl) (.tmp .nil)))) rfl ?_
  exact ⟨_, _, by first | rfl | (simp [errW_none, errW_some] <;> rfl) | (simp [*, errW_none, errW_some] <;> rfl), tSm (Kd.S_types (Kd.S_types HO304.out BK295.out (by decide)) BK296.out (by decide)), tSm (Kd.S_types (Kd.S_types HO312.out BK295.out (by decide)) BK296.out (by decide)), zb⟩

end Go.Proofs.YtahenocndacjeaaDoor.G

