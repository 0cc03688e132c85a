/- A text of seat YtbbboachakkgiaaDoor: what the law FnLogCut needs of this repo's texts (by pack.py). Not trusted: Lean checks it. -/
import Derived.Test.YtbbboachakkgiaaDoorKFnLogCut6
namespace Go.Proofs.YtbbboachakkgiaaDoor.G
open Go.RowKit Go.Proofs.YtbbboachakkgiaaDoorW.PrintWords Go.Proofs.YtbbboachakkgiaaDoorW.PrintLast Go.Proofs.YtbbboachakkgiaaDoorW.PrintMore
attribute [local go_sem] max2_int min2_int max_two min_two max_three min_three max_four min_four   -- for this text's walks alone
set_option linter.unusedVariables false
set_option linter.unusedSimpArgs false

mutual
def impl_Batch_cut.j0 : Nat → Int → Bool → Bool → Bool → Int → Int → Int → List (S33) → Option (Bool × Bool × Int × Int × Int × (List (S33)) × Bool × Bool × Int × Int × Int × (List (S33)) × Option Int)
 | 0, _, _, _, _, _, _, _, _ => none
 | k + 1, x1, x18, x324000, x324001, x324002, x324003, x324004, x324005 => if x18 = true then (some (false, false, 0, 0, 0, ([] : List (S33)), false, false, 0, 0, 0, ([] : List (S33)), some 2)) else (impl_Batch_cut.l0 k x1 x324005 (x324005.length : Int) 0 x324000 false 255 0 0 ([] : List (S33)) x324000 false 255 0 0 ([] : List (S33)))
def impl_Batch_cut.l0 : Nat → Int → List (S33) → Int → Int → Bool → Bool → Int → Int → Int → List (S33) → Bool → Bool → Int → Int → Int → List (S33) → Option (Bool × Bool × Int × Int × Int × (List (S33)) × Bool × Bool × Int × Int × Int × (List (S33)) × Option Int)
 | 0, _, _, _, _, _, _, _, _, _, _, _, _, _, _, _, _ => none
 | k + 1, x1, x27, x28, x29, x328000, x328001, x328002, x328003, x328004, x328005, x329000, x329001, x329002, x329003, x329004, x329005 => if x29 < x28 then (if 0 ≤ x29 then (if x29 < (x27.length : Int) then (if ((rd_T33 x27 x29).f0) < x1 then ((impl_Record_copyOf.f ((rd_T33 x27 x29).f0) ((rd_T33 x27 x29).f1) ((rd_T33 x27 x29).f2) ((rd_T33 x27 x29).f3) ((rd_T33 x27 x29).f4) ((rd_T33 x27 x29).f5)).bind fun bt331 => (if x328005.length < 1759218604441 then (impl_Batch_cut.l0 k x1 x27 x28 (wrap64 (x29 + 1)) x328000 x328001 x328002 x328003 x328004 (x328005 ++ [(⟨bt331.1, bt331.2.1, bt331.2.2.1, bt331.2.2.2.1, bt331.2.2.2.2.1, bt331.2.2.2.2.2⟩ : S33)]) x329000 x329001 x329002 x329003 x329004 x329005) else (none))) else ((impl_Record_copyOf.f ((rd_T33 x27 x29).f0) ((rd_T33 x27 x29).f1) ((rd_T33 x27 x29).f2) ((rd_T33 x27 x29).f3) ((rd_T33 x27 x29).f4) ((rd_T33 x27 x29).f5)).bind fun bt344 => (if x329005.length < 1759218604441 then (impl_Batch_cut.l0 k x1 x27 x28 (wrap64 (x29 + 1)) x328000 x328001 x328002 x328003 x328004 x328005 x329000 x329001 x329002 x329003 x329004 (x329005 ++ [(⟨bt344.1, bt344.2.1, bt344.2.2.1, bt344.2.2.2.1, bt344.2.2.2.2.1, bt344.2.2.2.2.2⟩ : S33)])) else (none)))) else (none)) else (none)) else (if (x328005.length : Int) = 0 then (some (false, false, 0, 0, 0, ([] : List (S33)), false, false, 0, 0, 0, ([] : List (S33)), some 2)) else (if (x329005.length : Int) = 0 then (some (false, false, 0, 0, 0, ([] : List (S33)), false, false, 0, 0, 0, ([] : List (S33)), some 2)) else (some (x328000, x328001, x328002, x328003, x328004, x328005, x329000, x329001, x329002, x329003, x329004, x329005, none))))
end
def impl_Batch_cut.f (k : Nat) (a0_0 : Bool) (a0_1 : Bool) (a0_2 : Int) (a0_3 : Int) (a0_4 : Int) (l0_5 : List (S33)) (a1 : Int) : Option (Bool × Bool × Int × Int × Int × (List (S33)) × Bool × Bool × Int × Int × Int × (List (S33)) × Option Int) := (impl_BatchValid.f k a0_0 a0_1 a0_2 a0_3 a0_4 l0_5).bind fun t326 => (if t326 = true then (impl_Batch_cut.j0 k a1 (a0_2 != 255) a0_0 a0_1 a0_2 a0_3 a0_4 l0_5) else (impl_Batch_cut.j0 k a1 true a0_0 a0_1 a0_2 a0_3 a0_4 l0_5))
def impl_Batch_cut.T9 : Bool × List (List Nat × List Nat) := (true, [([], []), ([0], [0]), ([], []), ([2], [2]), ([3], [3]), ([1, 4, 3], [1, 4]), ([0, 1, 2, 3, 4, 5], []), ([6, 5, 5, 0, 1, 2, 3, 4, 5], [5, 6])])
def impl_Batch_cut.B9 : List Nat := [0, 1, 0, 4, 12, 31, 63, 127]
theorem impl_Batch_cut.tab9 : rtab .any (opsOf Tryd.f61 9) = impl_Batch_cut.T9 := by kernel_rfl
theorem impl_Batch_cut.bits9 : waitsOk impl_Batch_cut.T9.2 impl_Batch_cut.B9 = true := by kernel_rfl
def impl_Batch_cut.T10 : Bool × List (List Nat × List Nat) := (true, [([], []), ([0], [0]), ([], []), ([2], [2]), ([3], [3]), ([1, 4, 3], [1, 4]), ([0, 1, 2, 3, 4, 5], []), ([6, 5, 5, 0, 1, 2, 3, 4, 5], [5, 6])])
def impl_Batch_cut.B10 : List Nat := [0, 1, 0, 4, 12, 31, 63, 127]
theorem impl_Batch_cut.tab10 : rtab .any (opsOf Tryd.f61 10) = impl_Batch_cut.T10 := by kernel_rfl
theorem impl_Batch_cut.bits10 : waitsOk impl_Batch_cut.T10.2 impl_Batch_cut.B10 = true := by kernel_rfl
set_option maxHeartbeats 40000000 in
set_option maxRecDepth 100000 in
theorem impl_Batch_cut.calls [ErrA] (k : Nat) (a0_0 : Bool) (a0_1 : Bool) (a0_2 : Int) (a0_3 : Int) (a0_4 : Int) (A0_5 : Option Addr) (c0_5 : Nat) (l0_5 : List (S33)) (a1 : Int) (r1 : Bool) (r2 : Bool) (r3 : Int) (r4 : Int) (r5 : Int) (r6 : List (S33)) (r7 : Bool) (r8 : Bool) (r9 : Int) (r10 : Int) (r11 : Int) (r12 : List (S33)) (r13 : Option Int) (w : World) (hE : ErrOk [1] w) (hr0_5 : Kd.C k33 w A0_5 l0_5.length l0_5) (hc0_5 : l0_5.length ≤ c0_5) (h : impl_Batch_cut.f k a0_0 a0_1 a0_2 a0_3 a0_4 l0_5 a1 = some (r1, r2, r3, r4, r5, r6, r7, r8, r9, r10, r11, r12, r13)) :
  Calls Tryd.prog 61 #[.agg #[.bool a0_0, .bool a0_1, .int .i64 a0_2, .int .i64 a0_3, .int .i64 a0_4, .slice A0_5 l0_5.length c0_5], .int .i64 a1] w fun e w' => ∃ v5_ v11_ : Value, e = .returned (.tuple #[.agg #[.bool r1, .bool r2, .int .i64 r3, .int .i64 r4, .int .i64 r5, v5_], .agg #[.bool r7, .bool r8, .int .i64 r9, .int .i64 r10, .int .i64 r11, v11_], errW r13]) ∧ Kd.S k33 33 w' w.heap.size (fun k_ => some k_ ≠ (v11_ : Value).ownBlock) v5_ r6 ∧ Kd.S k33 33 w' w.heap.size (fun k_ => some k_ ≠ (v5_ : Value).ownBlock) v11_ r12 ∧ Below w.heap.size w w' := by
 have HE := Aside0.mk hE
 clear hE
 have hu47 := Tryd.underlying47
 have hu33 := Tryd.underlying33
 have HR0_5 := Aside0.mk hr0_5
 have HC0_5 := Aside0.mk hc0_5
 clear hr0_5 hc0_5
 have HB := Aside0.mk (Below.refl w.heap.size w)
 have H : ((impl_BatchValid.f k a0_0 a0_1 a0_2 a0_3 a0_4 l0_5).bind fun t326 => (if t326 = true then (impl_Batch_cut.j0 k a1 (a0_2 != 255) a0_0 a0_1 a0_2 a0_3 a0_4 l0_5) else (impl_Batch_cut.j0 k a1 true a0_0 a0_1 a0_2 a0_3 a0_4 l0_5))) = some (r1, r2, r3, r4, r5, r6, r7, r8, r9, r10, r11, r12, r13) := h
 clear h
 have HC3 := Aside0.mk H
 clear H
 go_enter Tryd.func61, Tryd.ntmps61
 go_upto_region 1 with (first | ((with_reducible refine gate_dst (N := 2) rfl ?_); (try (refine gate_guard (by rfl) ?_; dsimp only)); refine box_event ?hg (N := 2) ?hd (cs := #[.bool a0_0, .bool a0_1, .int .i64 a0_2, .int .i64 a0_3, .int .i64 a0_4, .slice A0_5 l0_5.length c0_5]) (t := 47) ?hr ?_; (case hd => rfl); (case hg => rfl); (case hr => first | (go_simp; done) | (go_simp; rfl)); intro gb323 hg w4 hbox hb; have BK323 := Aside0.mk (hbox); have GW323 := tge HB hg; have GE323 := tge HB hg; replace HB := tBs HB hb; clear hb hbox hg) | ((with_reducible refine gate_dst (N := 4) rfl ?_); (try (refine gate_guard (by rfl) ?_; dsimp only)); refine box_event ?hg (N := 4) ?hd (cs := #[.bool false, .bool false, .int .i64 0, .int .i64 0, .int .i64 0, .slice none 0 0]) (t := 47) ?hr ?_; (case hd => rfl); (case hg => rfl); (case hr => first | (go_simp; done) | (go_simp; rfl)); intro gb324 hg w5 hbox hb; have BK324 := Aside0.mk (hbox); have GW324 := tge HB hg; have GE324 := tge HB hg; replace HB := tBs HB hb; have NB323_324 := tlt BK323 hg; have NB324_323 := tgt BK323 hg; replace BK323 := tBb BK323 hb; clear hb hbox hg) | ((with_reducible refine gate_dst (N := 5) rfl ?_); (try (refine gate_guard (by rfl) ?_; dsimp only)); refine box_event ?hg (N := 5) ?hd (cs := #[.bool false, .bool false, .int .i64 0, .int .i64 0, .int .i64 0, .slice none 0 0]) (t := 47) ?hr ?_; (case hd => rfl); (case hg => rfl); (case hr => first | (go_simp; done) | (go_simp; rfl)); intro gb325 hg w6 hbox hb; have BK325 := Aside0.mk (hbox); have GW325 := tge HB hg; have GE325 := tge HB hg; replace HB := tBs HB hb; have NB323_325 := tlt BK323 hg; have NB325_323 := tgt BK323 hg; replace BK323 := tBb BK323 hb; have NB324_325 := tlt BK324 hg; have NB325_324 := tgt BK324 hg; replace BK324 := tBb BK324 hb; clear hb hbox hg))
 (try simp only [Act.put, List.setIfInBounds_toArray, List.set_cons_zero, List.set_cons_succ])
 go_cut [18] (fun v18 wc => ∃ (kq : Nat) (x18_2 : Bool), v18 = .bool x18_2 ∧ Aside0 (impl_Batch_cut.j0 kq a1 x18_2 a0_0 a0_1 a0_2 a0_3 a0_4 l0_5 = some (r1, r2, r3, r4, r5, r6, r7, r8, r9, r10, r11, r12, r13)) ∧ Aside0 (kq ≤ k) ∧ Aside0 (wc.heap[gb323]? = some (.cells #[.bool a0_0, .bool a0_1, .int .i64 a0_2, .int .i64 a0_3, .int .i64 a0_4, (.slice A0_5 l0_5.length c0_5)] 47 (0, 0))) ∧ Aside0 (wc.heap[gb324]? = some (.cells #[.bool false, .bool false, .int .i64 0, .int .i64 0, .int .i64 0, (.slice none 0 0)] 47 (0, 0))) ∧ Aside0 (wc.heap[gb325]? = some (.cells #[.bool false, .bool false, .int .i64 0, .int .i64 0, .int .i64 0, (.slice none 0 0)] 47 (0, 0))) ∧ Aside0 (Below w.heap.size w wc))
 case first =>
  have H := HC3.out
  clear HC3
  replace H := tbe H
  obtain ⟨t326, A7, H⟩ := H
  by_cases c8 : t326 = true
  ·subst c8
   rw [if_pos rfl] at H
   have H' := Aside0.mk H
   clear H
   have hnb9 := NB323_324.out
   have hnc9 := NB324_323.out
   have hnb10 := NB323_325.out
   have hnc10 := NB325_323.out
   obtain ⟨hcz11_0, hcz11_1, hcz11_2, hcz11_3, hcz11_4, hcz11_5, hfz11_0, hfz11_1, hfz11_2, hfz11_3, hfz11_4, hfz11_5⟩ := cells6 BK323.out
   go_wp2_with (first | ((with_reducible refine gate_dst (N := 64) rfl ?_); refine glob_ rfl (v := .iface 151 (.pointer (some (ErrA.errA 2)))) (g := 1) ?hr ?hc ?_; (case hc => exact ErrOk.g1 (ErrOk.below HE.out zb) (by decide)); (case hr => intro W_ hc_; go_simp)) | ((with_reducible refine gate_dst (N := 21) rfl ?_); refine glob_ rfl (v := .iface 151 (.pointer (some (ErrA.errA 2)))) (g := 1) ?hr ?hc ?_; (case hc => exact ErrOk.g1 (ErrOk.below HE.out zb) (by decide)); (case hr => intro W_ hc_; go_simp)) | ((with_reducible refine gate_callee (f := 44) rfl ?_); refine goesL_ (some 12) rfl rfl Tryd.func44 (by kernel_rfl) rfl #[.agg #[.bool a0_0, .bool a0_1, .int .i64 a0_2, .int .i64 a0_3, .int .i64 a0_4, .slice A0_5 l0_5.length c0_5]] rfl tq ?_; (with_reducible refine (impl_BatchValid.calls k a0_0 a0_1 a0_2 a0_3 a0_4 _ _ l0_5 true _ ?side1 ?side2 A7.out).mono ?_); (case side1 => exact tC (Kd.C_below HR0_5.out HB.out)); (case side2 => exact HC0_5.out); rintro e w12 ⟨rfl, hb⟩; refine ⟨_, rfl, ?_⟩; replace BK323 := tBb BK323 hb; replace BK324 := tBb BK324 hb; replace BK325 := tBb BK325 hb; replace HB := tBs HB hb; (try clear hb); (try clear hb2); (try clear hk); (try clear hi); obtain ⟨hcz13_0, hcz13_1, hcz13_2, hcz13_3, hcz13_4, hcz13_5, hfz13_0, hfz13_1, hfz13_2, hfz13_3, hfz13_4, hfz13_5⟩ := cells6 BK323.out))
   go_meet
   case rel => exact ⟨_, ((a0_2 != 255)), tr, H', ⟨by first | omega | exact Nat.le_refl _⟩, ⟨tH BK323.out⟩, ⟨tH BK324.out⟩, ⟨tH BK325.out⟩, ⟨zb⟩⟩
  ·replace c8 := Bool.eq_false_iff.mpr c8
   subst c8
   rw [if_neg (show ¬ (false = true) by decide)] at H
   have H' := Aside0.mk H
   clear H
   have hnb14 := NB323_324.out
   have hnc14 := NB324_323.out
   have hnb15 := NB323_325.out
   have hnc15 := NB325_323.out
   obtain ⟨hcz16_0, hcz16_1, hcz16_2, hcz16_3, hcz16_4, hcz16_5, hfz16_0, hfz16_1, hfz16_2, hfz16_3, hfz16_4, hfz16_5⟩ := cells6 BK323.out
   go_wp2_with (first | ((with_reducible refine gate_dst (N := 64) rfl ?_); refine glob_ rfl (v := .iface 151 (.pointer (some (ErrA.errA 2)))) (g := 1) ?hr ?hc ?_; (case hc => exact ErrOk.g1 (ErrOk.below HE.out zb) (by decide)); (case hr => intro W_ hc_; go_simp)) | ((with_reducible refine gate_dst (N := 21) rfl ?_); refine glob_ rfl (v := .iface 151 (.pointer (some (ErrA.errA 2)))) (g := 1) ?hr ?hc ?_; (case hc => exact ErrOk.g1 (ErrOk.below HE.out zb) (by decide)); (case hr => intro W_ hc_; go_simp)) | ((with_reducible refine gate_callee (f := 44) rfl ?_); refine goesL_ (some 12) rfl rfl Tryd.func44 (by kernel_rfl) rfl #[.agg #[.bool a0_0, .bool a0_1, .int .i64 a0_2, .int .i64 a0_3, .int .i64 a0_4, .slice A0_5 l0_5.length c0_5]] rfl tq ?_; (with_reducible refine (impl_BatchValid.calls k a0_0 a0_1 a0_2 a0_3 a0_4 _ _ l0_5 false _ ?side1 ?side2 A7.out).mono ?_); (case side1 => exact tC (Kd.C_below HR0_5.out HB.out)); (case side2 => exact HC0_5.out); rintro e w17 ⟨rfl, hb⟩; refine ⟨_, rfl, ?_⟩; replace BK323 := tBb BK323 hb; replace BK324 := tBb BK324 hb; replace BK325 := tBb BK325 hb; replace HB := tBs HB hb; (try clear hb); (try clear hb2); (try clear hk); (try clear hi)))
   go_meet
   case rel => exact ⟨_, (true), tr, H', ⟨by first | omega | exact Nat.le_refl _⟩, ⟨tH BK323.out⟩, ⟨tH BK324.out⟩, ⟨tH BK325.out⟩, ⟨zb⟩⟩
 case rest =>
  clear HC3
  obtain ⟨kq, x18_2, rfl, HA, HJ2, BK323, BK324, BK325, HB⟩ := hcut
  cases kq with
  | zero => exact absurd HA.out (by simp [impl_Batch_cut.j0])
  | succ kj2 =>
   have H := HA.out
   clear HA
   simp only [impl_Batch_cut.j0] at H
   by_cases c18 : x18_2 = true
   ·subst c18
    rw [if_pos rfl] at H
    simp only [Option.some.injEq, Prod.mk.injEq] at H
    obtain ⟨rfl, rfl, rfl, rfl, rfl, rfl, rfl, rfl, rfl, rfl, rfl, rfl, rfl⟩ := H
    try go_wp2
    replace BK323 := Aside0.mk (blk_drew BK323.out)
    replace BK324 := Aside0.mk (blk_drew BK324.out)
    replace BK325 := Aside0.mk (blk_drew BK325.out)
    replace HB := Aside0.mk (below_drew1 HB.out)
    refine start_ (n := 6) (S := ErrOk [1]) (ds := []) #[false, false, false, false, false, false] (by kernel_rfl) rfl rfl (ErrOk.below HE.out HB.out) (fun hHeld => ?_)
    generalize wc.drew = w19 at BK323 BK324 BK325 HB hHeld ⊢
    refine pure_ (i := 0) (N := some 19) (v := ?_) (a' := ?_) #[true, false, false, false, false, false] rfl rfl (by kernel_rfl) (fun _ _ _ h => h) (Or.inl ⟨by rfl, ?_⟩) ?_ ?_
    rotate_left
    ·intro w'
     go_simp
     with_reducible rfl
    rotate_left
    ·simp only [Act.put, List.setIfInBounds_toArray, List.set_cons_zero, List.set_cons_succ, i64_w, i32_w]
     rfl
    refine pure_ (i := 1) (N := some 20) (v := ?_) (a' := ?_) #[true, true, false, false, false, false] rfl rfl (by kernel_rfl) (fun _ _ _ h => h) (Or.inl ⟨by rfl, ?_⟩) ?_ ?_
    rotate_left
    ·intro w'
     go_simp
     with_reducible rfl
    rotate_left
    ·simp only [Act.put, List.setIfInBounds_toArray, List.set_cons_zero, List.set_cons_succ, i64_w, i32_w]
     rfl
    refine take_ (i := 2) (N := some 21) (v := ?_) (a' := ?_) #[true, true, true, false, false, false] rfl rfl (by kernel_rfl) (fun _ _ _ h => h) (Or.inl ⟨by rfl, ?_⟩) hHeld ?_ ?_
    rotate_left
    ·intro w' hS_
     try have hg0_ := ErrOk.g0 hS_ (by decide)
     try have hg1_ := ErrOk.g1 hS_ (by decide)
     clear hS_
     go_simp
     with_reducible rfl
    rotate_left
    ·simp only [Act.put, List.setIfInBounds_toArray, List.set_cons_zero, List.set_cons_succ, i64_w, i32_w]
     rfl
    refine one_ (i := 3) (N := none) #[true, true, true, true, false, false] rfl rfl (by kernel_rfl) (by decide) (fun K hK => ?_)
    have hs20 : w19.cell? ⟨gb324, 0, none⟩ = some (.bool false) := (blk_cell BK324.out 0).trans rfl
    have hfs20 := blk_frozen BK324.out 0
    have hns20_0 := NB323_324.out
    have hns20_2 := NB325_324.out
    have hms20_0 := NB324_323.out
    have hms20_2 := NB324_325.out
    have hs21 : w19.cell? ⟨gb324, 1, none⟩ = some (.bool false) := (blk_cell BK324.out 1).trans rfl
    have hfs21 := blk_frozen BK324.out 1
    have hns21_0 := NB323_324.out
    have hns21_2 := NB325_324.out
    have hms21_0 := NB324_323.out
    have hms21_2 := NB324_325.out
    have hs22 : w19.cell? ⟨gb324, 2, none⟩ = some (.int .i64 0) := (blk_cell BK324.out 2).trans rfl
    have hfs22 := blk_frozen BK324.out 2
    have hns22_0 := NB323_324.out
    have hns22_2 := NB325_324.out
    have hms22_0 := NB324_323.out
    have hms22_2 := NB324_325.out
    have hs23 : w19.cell? ⟨gb324, 3, none⟩ = some (.int .i64 0) := (blk_cell BK324.out 3).trans rfl
    have hfs23 := blk_frozen BK324.out 3
    have hns23_0 := NB323_324.out
    have hns23_2 := NB325_324.out
    have hms23_0 := NB324_323.out
    have hms23_2 := NB324_325.out
    have hs24 : w19.cell? ⟨gb324, 4, none⟩ = some (.int .i64 0) := (blk_cell BK324.out 4).trans rfl
    have hfs24 := blk_frozen BK324.out 4
    have hns24_0 := NB323_324.out
    have hns24_2 := NB325_324.out
    have hms24_0 := NB324_323.out
    have hms24_2 := NB324_325.out
    have hs25 : w19.cell? ⟨gb324, 5, none⟩ = some (.slice none 0 0) := (blk_cell BK324.out 5).trans rfl
    have hfs25 := blk_frozen BK324.out 5
    have hns25_0 := NB323_324.out
    have hns25_2 := NB325_324.out
    have hms25_0 := NB324_323.out
    have hms25_2 := NB324_325.out
    refine skip_ (w1 := ?_) (by rfl) rfl ?_ ?_
    rotate_left
    ·go_simp
     rfl
    refine hK.out _ _ (by repeat (first | (with_reducible exact hHeld) | (with_reducible refine ErrOk.set HE.out ?_ (by with_reducible first | exact GE323.out | exact GE324.out | exact GE325.out | exact GE327.out | exact GE328.out | exact GE330.out) _ _))) (fun hHeld => ?_)
    clear hK K
    refine one_ (i := 4) (N := none) #[true, true, true, true, true, false] rfl rfl (by kernel_rfl) (by decide) (fun K hK => ?_)
    have hs26 : w19.cell? ⟨gb325, 0, none⟩ = some (.bool false) := (blk_cell BK325.out 0).trans rfl
    have hfs26 := blk_frozen BK325.out 0
    have hns26_0 := NB323_325.out
    have hns26_1 := NB324_325.out
    have hms26_0 := NB325_323.out
    have hms26_1 := NB325_324.out
    have hs27 : w19.cell? ⟨gb325, 1, none⟩ = some (.bool false) := (blk_cell BK325.out 1).trans rfl
    have hfs27 := blk_frozen BK325.out 1
    have hns27_0 := NB323_325.out
    have hns27_1 := NB324_325.out
    have hms27_0 := NB325_323.out
    have hms27_1 := NB325_324.out
    have hs28 : w19.cell? ⟨gb325, 2, none⟩ = some (.int .i64 0) := (blk_cell BK325.out 2).trans rfl
    have hfs28 := blk_frozen BK325.out 2
    have hns28_0 := NB323_325.out
    have hns28_1 := NB324_325.out
    have hms28_0 := NB325_323.out
    have hms28_1 := NB325_324.out
    have hs29 : w19.cell? ⟨gb325, 3, none⟩ = some (.int .i64 0) := (blk_cell BK325.out 3).trans rfl
    have hfs29 := blk_frozen BK325.out 3
    have hns29_0 := NB323_325.out
    have hns29_1 := NB324_325.out
    have hms29_0 := NB325_323.out
    have hms29_1 := NB325_324.out
    have hs30 : w19.cell? ⟨gb325, 4, none⟩ = some (.int .i64 0) := (blk_cell BK325.out 4).trans rfl
    have hfs30 := blk_frozen BK325.out 4
    have hns30_0 := NB323_325.out
    have hns30_1 := NB324_325.out
    have hms30_0 := NB325_323.out
    have hms30_1 := NB325_324.out
    have hs31 : w19.cell? ⟨gb325, 5, none⟩ = some (.slice none 0 0) := (blk_cell BK325.out 5).trans rfl
    have hfs31 := blk_frozen BK325.out 5
    have hns31_0 := NB323_325.out
    have hns31_1 := NB324_325.out
    have hms31_0 := NB325_323.out
    have hms31_1 := NB325_324.out
    refine skip_ (w1 := ?_) (by rfl) rfl ?_ ?_
    rotate_left
    ·go_simp
     rfl
    refine hK.out _ _ (by repeat (first | (with_reducible exact hHeld) | (with_reducible refine ErrOk.set HE.out ?_ (by with_reducible first | exact GE323.out | exact GE324.out | exact GE325.out | exact GE327.out | exact GE328.out | exact GE330.out) _ _))) (fun hHeld => ?_)
    clear hK K
    refine pure_ (i := 5) (N := some 6) (v := ?_) (a' := ?_) #[true, true, true, true, true, true] rfl rfl (by kernel_rfl) (fun _ _ _ h => h) (Or.inl ⟨by rfl, ?_⟩) ?_ ?_
    rotate_left
    ·intro w'
     go_simp
     with_reducible rfl
    rotate_left
    ·simp only [Act.put, List.setIfInBounds_toArray, List.set_cons_zero, List.set_cons_succ, i64_w, i32_w]
     rfl
    refine done_ (by kernel_rfl) ?_
    try go_wp2
    refine bodyPost_ret (results_list (rs := [.cell 4 47, .cell 5 47, .tmp 6]) rfl (by simp) (.cell gb324 47 #[.bool false, .bool false, .int .i64 0, .int .i64 0, .int .i64 0, .slice none 0 0] (0, 0) _ rfl (tP BK324.out) Tryd.underlying47 rfl (by kernel_rfl) (.cell gb325 47 #[.bool false, .bool false, .int .i64 0, .int .i64 0, .int .i64 0, .slice none 0 0] (0, 0) _ rfl (tP BK325.out) Tryd.underlying47 rfl (by kernel_rfl) (.tmp .nil)))) rfl ?_
    exact ⟨_, _, by first | rfl | (simp [errW_none, errW_some] <;> rfl) | (simp [*, errW_none, errW_some] <;> rfl), by first | exact Kd.S_nil _ _ _ _ _ | exact Kd.N_nil _ _ _ _ _ | exact Kd.V_nil _ _ _ _ _ | exact Kd.Q_nil _ _ _ _ _ | exact Kd.R_nil _ _ _ _ _, by first | exact Kd.S_nil _ _ _ _ _ | exact Kd.N_nil _ _ _ _ _ | exact Kd.V_nil _ _ _ _ _ | exact Kd.Q_nil _ _ _ _ _ | exact Kd.R_nil _ _ _ _ _, zb⟩
   ·replace c18 := Bool.eq_false_iff.mpr c18
    subst c18
    rw [if_neg (show ¬ (false = true) by decide)] at H
    have H' := Aside0.mk H
    clear H
    have hnb32 := NB323_324.out
    have hnc32 := NB324_323.out
    have hnb33 := NB323_325.out
    have hnc33 := NB325_323.out
    obtain ⟨hcz34_0, hcz34_1, hcz34_2, hcz34_3, hcz34_4, hcz34_5, hfz34_0, hfz34_1, hfz34_2, hfz34_3, hfz34_4, hfz34_5⟩ := cells6 BK323.out
    go_wp2_with (first | ((with_reducible refine gate_dst (N := 64) rfl ?_); refine glob_ rfl (v := .iface 151 (.pointer (some (ErrA.errA 2)))) (g := 1) ?hr ?hc ?_; (case hc => exact ErrOk.g1 (ErrOk.below HE.out zb) (by decide)); (case hr => intro W_ hc_; go_simp)) | ((with_reducible refine gate_dst (N := 21) rfl ?_); refine glob_ rfl (v := .iface 151 (.pointer (some (ErrA.errA 2)))) (g := 1) ?hr ?hc ?_; (case hc => exact ErrOk.g1 (ErrOk.below HE.out zb) (by decide)); (case hr => intro W_ hc_; go_simp)) | ((with_reducible refine gate_dst (N := 7) rfl ?_); (try (refine gate_guard (by rfl) ?_; dsimp only)); refine box_event ?hg (N := 7) ?hd (cs := #[.bool false, .bool false, .int .i64 0, .int .i64 0, .int .i64 0, .slice none 0 0]) (t := 47) ?hr ?_; (case hd => rfl); (case hg => rfl); (case hr => first | (go_simp; done) | (go_simp; rfl)); intro gb327 hg w35 hbox hb; have BK327 := Aside0.mk (hbox); have GW327 := tge HB hg; have GE327 := tge HB hg; replace HB := tBs HB hb; have NB323_327 := tlt BK323 hg; have NB327_323 := tgt BK323 hg; replace BK323 := tBb BK323 hb; have NB324_327 := tlt BK324 hg; have NB327_324 := tgt BK324 hg; replace BK324 := tBb BK324 hb; have NB325_327 := tlt BK325 hg; have NB327_325 := tgt BK325 hg; replace BK325 := tBb BK325 hb; clear hb hbox hg; have hnb36 := NB327_323.out; have hnc36 := NB323_327.out; have hnb37 := NB327_324.out; have hnc37 := NB324_327.out; have hnb38 := NB327_325.out; have hnc38 := NB325_327.out; obtain ⟨hcz39_0, hcz39_1, hcz39_2, hcz39_3, hcz39_4, hcz39_5, hfz39_0, hfz39_1, hfz39_2, hfz39_3, hfz39_4, hfz39_5⟩ := cells6 BK327.out) | ((with_reducible refine gate_dst (N := 8) rfl ?_); (try (refine gate_guard (by rfl) ?_; dsimp only)); refine box_event ?hg (N := 8) ?hd (cs := #[.bool false, .bool false, .int .i64 0, .int .i64 0, .int .i64 0, .slice none 0 0]) (t := 47) ?hr ?_; (case hd => rfl); (case hg => rfl); (case hr => first | (go_simp; done) | (go_simp; rfl)); intro gb328 hg w40 hbox hb; have BK328 := Aside0.mk (hbox); have GW328 := tge HB hg; have GE328 := tge HB hg; replace HB := tBs HB hb; have NB323_328 := tlt BK323 hg; have NB328_323 := tgt BK323 hg; replace BK323 := tBb BK323 hb; have NB324_328 := tlt BK324 hg; have NB328_324 := tgt BK324 hg; replace BK324 := tBb BK324 hb; have NB325_328 := tlt BK325 hg; have NB328_325 := tgt BK325 hg; replace BK325 := tBb BK325 hb; have NB327_328 := tlt BK327 hg; have NB328_327 := tgt BK327 hg; replace BK327 := tBp (o' := .cells #[.bool a0_0, .bool false, .int .i64 255, .int .i64 0, .int .i64 0, .slice none 0 0] 47 (0, 0)) BK327 hb; clear hb hbox hg; have hnb41 := NB328_323.out; have hnc41 := NB323_328.out; have hnb42 := NB328_324.out; have hnc42 := NB324_328.out; have hnb43 := NB328_325.out; have hnc43 := NB325_328.out; have hnb44 := NB328_327.out; have hnc44 := NB327_328.out; obtain ⟨hcz45_0, hcz45_1, hcz45_2, hcz45_3, hcz45_4, hcz45_5, hfz45_0, hfz45_1, hfz45_2, hfz45_3, hfz45_4, hfz45_5⟩ := cells6 BK328.out; obtain ⟨hcz46_0, hcz46_1, hcz46_2, hcz46_3, hcz46_4, hcz46_5, hfz46_0, hfz46_1, hfz46_2, hfz46_3, hfz46_4, hfz46_5⟩ := cells6 BK323.out))
    go_loopg [29] kj2 (fun kq v29 w' => ∃ (x29_2 : Int) (x328005_2 : List (S33)) (x329005_2 : List (S33)) (u328005 : Value) (u329005 : Value), v29 = .int .i64 x29_2 ∧ Aside0 (impl_Batch_cut.l0 kq a1 l0_5 (l0_5.length : Int) x29_2 a0_0 false 255 0 0 x328005_2 a0_0 false 255 0 0 x329005_2 = some (r1, r2, r3, r4, r5, r6, r7, r8, r9, r10, r11, r12, r13)) ∧ Aside0 (kq ≤ kj2) ∧ Aside0 (Kd.S k33 33 w' w.heap.size (fun k_ => some k_ ≠ (u329005 : Value).ownBlock) u328005 x328005_2) ∧ Aside0 (Kd.S k33 33 w' w.heap.size (fun k_ => some k_ ≠ (u328005 : Value).ownBlock) u329005 x329005_2) ∧ Aside0 (w'.heap[gb323]? = some (.cells #[.bool a0_0, .bool a0_1, .int .i64 a0_2, .int .i64 a0_3, .int .i64 a0_4, (.slice A0_5 l0_5.length c0_5)] 47 (0, 0))) ∧ Aside0 (w'.heap[gb324]? = some (.cells #[.bool false, .bool false, .int .i64 0, .int .i64 0, .int .i64 0, (.slice none 0 0)] 47 (0, 0))) ∧ Aside0 (w'.heap[gb325]? = some (.cells #[.bool false, .bool false, .int .i64 0, .int .i64 0, .int .i64 0, (.slice none 0 0)] 47 (0, 0))) ∧ Aside0 (w'.heap[gb327]? = some (.cells #[.bool a0_0, .bool false, .int .i64 255, .int .i64 0, .int .i64 0, u328005] 47 (0, 0))) ∧ Aside0 (w'.heap[gb328]? = some (.cells #[.bool a0_0, .bool false, .int .i64 255, .int .i64 0, .int .i64 0, u329005] 47 (0, 0))) ∧ Aside0 (Below w.heap.size w w'))
    case atStart => exact ⟨(0), (([] : List (S33))), (([] : List (S33))), (.slice none 0 0), (.slice none 0 0), tr, H', ⟨Nat.le_refl _⟩, ⟨by first | exact Kd.S_nil _ _ _ _ _ | exact Kd.N_nil _ _ _ _ _ | exact Kd.V_nil _ _ _ _ _ | exact Kd.Q_nil _ _ _ _ _ | exact Kd.R_nil _ _ _ _ _⟩, ⟨by first | exact Kd.S_nil _ _ _ _ _ | exact Kd.N_nil _ _ _ _ _ | exact Kd.V_nil _ _ _ _ _ | exact Kd.Q_nil _ _ _ _ _ | exact Kd.R_nil _ _ _ _ _⟩, ⟨tH BK323.out⟩, ⟨tH BK324.out⟩, ⟨tH BK325.out⟩, ⟨tH BK327.out⟩, ⟨tP BK328.out⟩, ⟨zb⟩⟩
    case round =>
     clear H'
     try clear c18; try clear hcz34_0; try clear hcz34_1; try clear hcz34_2; try clear hcz34_3; try clear hcz34_4; try clear hcz34_5; try clear hcz39_0; try clear hcz39_1; try clear hcz39_2; try clear hcz39_3; try clear hcz39_4; try clear hcz39_5; try clear hcz45_0; try clear hcz45_1; try clear hcz45_2; try clear hcz45_3; try clear hcz45_4; try clear hcz45_5; try clear hcz46_0; try clear hcz46_1; try clear hcz46_2; try clear hcz46_3; try clear hcz46_4; try clear hcz46_5; try clear hfz34_0; try clear hfz34_1; try clear hfz34_2; try clear hfz34_3; try clear hfz34_4; try clear hfz34_5; try clear hfz39_0; try clear hfz39_1; try clear hfz39_2; try clear hfz39_3; try clear hfz39_4; try clear hfz39_5; try clear hfz45_0; try clear hfz45_1; try clear hfz45_2; try clear hfz45_3; try clear hfz45_4; try clear hfz45_5; try clear hfz46_0; try clear hfz46_1; try clear hfz46_2; try clear hfz46_3; try clear hfz46_4; try clear hfz46_5
     obtain ⟨x29_2, x328005_2, x329005_2, u328005, u329005, rfl, HA, HK2, HO_328005, HO_329005, BK323, BK324, BK325, BK327, BK328, HB⟩ := hrel
     cases gk with
     | zero => exact absurd HA.out (by simp [impl_Batch_cut.l0])
     | succ k2 =>
      have H := HA.out
      clear HA
      simp only [impl_Batch_cut.l0] at H
      by_cases c47 : x29_2 < (l0_5.length : Int)
      ·rw [if_pos c47] at H
       have c47b0 : decide (x29_2 < (l0_5.length : Int)) = true := decide_eq_true c47
       clear c47
       by_cases c48 : 0 ≤ x29_2
       ·rw [if_pos c48] at H
        have c48b0 : decide (0 ≤ x29_2) = true := decide_eq_true c48
        clear c48
        by_cases c49 : x29_2 < (l0_5.length : Int)
        ·rw [if_pos c49] at H
         have c49b0 : decide (x29_2 < (l0_5.length : Int)) = true := decide_eq_true c49
         clear c49
         by_cases c50 : ((rd_T33 l0_5 x29_2).f0) < a1
         ·rw [if_pos c50] at H
          have c50b0 : decide (((rd_T33 l0_5 x29_2).f0) < a1) = true := decide_eq_true c50
          clear c50
          replace H := tbe H
          obtain ⟨⟨t331, t332, t333, t334, t337, t338⟩, A51, H⟩ := H
          dsimp only at H
          by_cases c52 : x328005_2.length < 1759218604441
          ·rw [if_pos c52] at H
           have LMc52 := Aside0.mk c52
           clear c52
           obtain ⟨y341, hy341⟩ : ∃ y_ : List (S33), y_ = (x328005_2 ++ [(⟨t331, t332, t333, t334, t337, t338⟩ : S33)]) := ⟨_, rfl⟩
           replace H : (impl_Batch_cut.l0 k2 a1 l0_5 (l0_5.length : Int) (wrap64 (x29_2 + 1)) a0_0 false 255 0 0 y341 a0_0 false 255 0 0 x329005_2) = some (r1, r2, r3, r4, r5, r6, r7, r8, r9, r10, r11, r12, r13) := by first | (rw [hy341]; with_reducible exact H) | (have H2_ := (Option.bind_some _ _).symm.trans H; rw [hy341]; with_reducible exact H2_) | (have H2_ := (Option.bind_some _ _).symm.trans H; with_reducible exact H2_) | with_reducible exact H | (rw [hy341]; exact H) | exact H
           have Ny341 := Aside0.mk hy341
           clear hy341
           have H' := Aside0.mk H
           clear H
           have p329 : 0 ≤ (x29_2 : Int) := td
           have q329 : x29_2 < (l0_5.length : Int) := td
           obtain ⟨ad329, A329_3, c329_3, A329_5, c329_5, e329, hx329_0, hx329_1, hx329_2, hx329_3, hx329_4, hx329_5, hl329_3, hi329_3, hl329_5, hi329_5⟩ := at_T33 HR0_5.out x29_2 p329 q329
           cases e329
           replace hx329_0 := tcl HB hx329_0
           replace hx329_1 := tcl HB hx329_1
           replace hx329_2 := tcl HB hx329_2
           replace hx329_3 := tcl HB hx329_3
           replace hx329_4 := tcl HB hx329_4
           replace hx329_5 := tcl HB hx329_5
           have HR329_3 := Aside0.mk hi329_3
           have HC329_3 := Aside0.mk hl329_3
           clear hi329_3 hl329_3
           have HR329_5 := Aside0.mk hi329_5
           have HC329_5 := Aside0.mk hl329_5
           clear hi329_5 hl329_5
           replace p329 := eq_true p329
           replace q329 := eq_true q329
           try go_wp2_with (first | ((with_reducible refine gate_dst (N := 64) rfl ?_); refine glob_ rfl (v := .iface 151 (.pointer (some (ErrA.errA 2)))) (g := 1) ?hr ?hc ?_; (case hc => exact ErrOk.g1 (ErrOk.below HE.out zb) (by decide)); (case hr => intro W_ hc_; go_simp)) | ((with_reducible refine gate_dst (N := 21) rfl ?_); refine glob_ rfl (v := .iface 151 (.pointer (some (ErrA.errA 2)))) (g := 1) ?hr ?hc ?_; (case hc => exact ErrOk.g1 (ErrOk.below HE.out zb) (by decide)); (case hr => intro W_ hc_; go_simp)) | ((with_reducible refine gate_dst (N := 10) rfl ?_); (try (refine gate_guard (by rfl) ?_; dsimp only)); refine box_event ?hg (N := 10) ?hd (cs := #[.int .i64 0, .int .i64 0, .bool false, .slice none 0 0, .bool false, .slice none 0 0]) (t := 33) ?hr ?_; (case hd => rfl); (case hg => rfl); (case hr => first | (go_simp; done) | (go_simp; rfl)); intro gb330 hg w53 hbox hb; replace HO_328005 := tSB HO_328005 hg hb; replace HO_329005 := tSB HO_329005 hg hb; have BK330 := Aside0.mk (hbox); have GW330 := tge HB hg; have GE330 := tge HB hg; replace HB := tBs HB hb; have NB323_330 := tlt BK323 hg; have NB330_323 := tgt BK323 hg; replace BK323 := tBb BK323 hb; have NB324_330 := tlt BK324 hg; have NB330_324 := tgt BK324 hg; replace BK324 := tBb BK324 hb; have NB325_330 := tlt BK325 hg; have NB330_325 := tgt BK325 hg; replace BK325 := tBb BK325 hb; have NB327_330 := tlt BK327 hg; have NB330_327 := tgt BK327 hg; replace BK327 := tBb BK327 hb; have NB328_330 := tlt BK328 hg; have NB330_328 := tgt BK328 hg; replace BK328 := tBb BK328 hb; clear hb hbox hg; have hnb54 := NB330_323.out; have hnc54 := NB323_330.out; have hnb55 := NB330_324.out; have hnc55 := NB324_330.out; have hnb56 := NB330_325.out; have hnc56 := NB325_330.out; have hnb57 := NB330_327.out; have hnc57 := NB327_330.out; have hnb58 := NB330_328.out; have hnc58 := NB328_330.out; obtain ⟨hcz59_0, hcz59_1, hcz59_2, hcz59_3, hcz59_4, hcz59_5, hfz59_0, hfz59_1, hfz59_2, hfz59_3, hfz59_4, hfz59_5⟩ := cells6 BK330.out))
           have n0_ : Aside0 (Kd.S k33 33 ((((((w53.setCell ⟨gb330, 0, none⟩ (.int .i64 ((rd_T33 l0_5 x29_2).f0))).setCell ⟨gb330, 1, none⟩ (.int .i64 ((rd_T33 l0_5 x29_2).f1))).setCell ⟨gb330, 2, none⟩ (.bool ((rd_T33 l0_5 x29_2).f2))).setCell ⟨gb330, 3, none⟩ (.slice A329_3 ((rd_T33 l0_5 x29_2).f3).length c329_3)).setCell ⟨gb330, 4, none⟩ (.bool ((rd_T33 l0_5 x29_2).f4))).setCell ⟨gb330, 5, none⟩ (.slice A329_5 ((rd_T33 l0_5 x29_2).f5).length c329_5)) w.heap.size (fun k_ => some k_ ≠ (u329005 : Value).ownBlock ∧ k_ ≠ gb330) u328005 x328005_2) := ⟨tSm HO_328005.out⟩
           have n1_ : Aside0 (Kd.S k33 33 ((((((w53.setCell ⟨gb330, 0, none⟩ (.int .i64 ((rd_T33 l0_5 x29_2).f0))).setCell ⟨gb330, 1, none⟩ (.int .i64 ((rd_T33 l0_5 x29_2).f1))).setCell ⟨gb330, 2, none⟩ (.bool ((rd_T33 l0_5 x29_2).f2))).setCell ⟨gb330, 3, none⟩ (.slice A329_3 ((rd_T33 l0_5 x29_2).f3).length c329_3)).setCell ⟨gb330, 4, none⟩ (.bool ((rd_T33 l0_5 x29_2).f4))).setCell ⟨gb330, 5, none⟩ (.slice A329_5 ((rd_T33 l0_5 x29_2).f5).length c329_5)) w.heap.size (fun k_ => some k_ ≠ (u328005 : Value).ownBlock ∧ k_ ≠ gb330) u329005 x329005_2) := ⟨tSm HO_329005.out⟩
           have n2_ : Aside0 (((((((w53.setCell ⟨gb330, 0, none⟩ (.int .i64 ((rd_T33 l0_5 x29_2).f0))).setCell ⟨gb330, 1, none⟩ (.int .i64 ((rd_T33 l0_5 x29_2).f1))).setCell ⟨gb330, 2, none⟩ (.bool ((rd_T33 l0_5 x29_2).f2))).setCell ⟨gb330, 3, none⟩ (.slice A329_3 ((rd_T33 l0_5 x29_2).f3).length c329_3)).setCell ⟨gb330, 4, none⟩ (.bool ((rd_T33 l0_5 x29_2).f4))).setCell ⟨gb330, 5, none⟩ (.slice A329_5 ((rd_T33 l0_5 x29_2).f5).length c329_5)).heap[gb323]? = some (.cells #[.bool a0_0, .bool a0_1, .int .i64 a0_2, .int .i64 a0_3, .int .i64 a0_4, .slice (some ad329) l0_5.length c0_5] 47 (0, 0))) := ⟨tH BK323.out⟩
           have n3_ : Aside0 (((((((w53.setCell ⟨gb330, 0, none⟩ (.int .i64 ((rd_T33 l0_5 x29_2).f0))).setCell ⟨gb330, 1, none⟩ (.int .i64 ((rd_T33 l0_5 x29_2).f1))).setCell ⟨gb330, 2, none⟩ (.bool ((rd_T33 l0_5 x29_2).f2))).setCell ⟨gb330, 3, none⟩ (.slice A329_3 ((rd_T33 l0_5 x29_2).f3).length c329_3)).setCell ⟨gb330, 4, none⟩ (.bool ((rd_T33 l0_5 x29_2).f4))).setCell ⟨gb330, 5, none⟩ (.slice A329_5 ((rd_T33 l0_5 x29_2).f5).length c329_5)).heap[gb324]? = some (.cells #[.bool false, .bool false, .int .i64 0, .int .i64 0, .int .i64 0, .slice none 0 0] 47 (0, 0))) := ⟨tH BK324.out⟩
           have n4_ : Aside0 (((((((w53.setCell ⟨gb330, 0, none⟩ (.int .i64 ((rd_T33 l0_5 x29_2).f0))).setCell ⟨gb330, 1, none⟩ (.int .i64 ((rd_T33 l0_5 x29_2).f1))).setCell ⟨gb330, 2, none⟩ (.bool ((rd_T33 l0_5 x29_2).f2))).setCell ⟨gb330, 3, none⟩ (.slice A329_3 ((rd_T33 l0_5 x29_2).f3).length c329_3)).setCell ⟨gb330, 4, none⟩ (.bool ((rd_T33 l0_5 x29_2).f4))).setCell ⟨gb330, 5, none⟩ (.slice A329_5 ((rd_T33 l0_5 x29_2).f5).length c329_5)).heap[gb325]? = some (.cells #[.bool false, .bool false, .int .i64 0, .int .i64 0, .int .i64 0, .slice none 0 0] 47 (0, 0))) := ⟨tH BK325.out⟩
           have n5_ : Aside0 (((((((w53.setCell ⟨gb330, 0, none⟩ (.int .i64 ((rd_T33 l0_5 x29_2).f0))).setCell ⟨gb330, 1, none⟩ (.int .i64 ((rd_T33 l0_5 x29_2).f1))).setCell ⟨gb330, 2, none⟩ (.bool ((rd_T33 l0_5 x29_2).f2))).setCell ⟨gb330, 3, none⟩ (.slice A329_3 ((rd_T33 l0_5 x29_2).f3).length c329_3)).setCell ⟨gb330, 4, none⟩ (.bool ((rd_T33 l0_5 x29_2).f4))).setCell ⟨gb330, 5, none⟩ (.slice A329_5 ((rd_T33 l0_5 x29_2).f5).length c329_5)).heap[gb327]? = some (.cells #[.bool a0_0, .bool false, .int .i64 255, .int .i64 0, .int .i64 0, u328005] 47 (0, 0))) := ⟨tH BK327.out⟩
           have n6_ : Aside0 (((((((w53.setCell ⟨gb330, 0, none⟩ (.int .i64 ((rd_T33 l0_5 x29_2).f0))).setCell ⟨gb330, 1, none⟩ (.int .i64 ((rd_T33 l0_5 x29_2).f1))).setCell ⟨gb330, 2, none⟩ (.bool ((rd_T33 l0_5 x29_2).f2))).setCell ⟨gb330, 3, none⟩ (.slice A329_3 ((rd_T33 l0_5 x29_2).f3).length c329_3)).setCell ⟨gb330, 4, none⟩ (.bool ((rd_T33 l0_5 x29_2).f4))).setCell ⟨gb330, 5, none⟩ (.slice A329_5 ((rd_T33 l0_5 x29_2).f5).length c329_5)).heap[gb328]? = some (.cells #[.bool a0_0, .bool false, .int .i64 255, .int .i64 0, .int .i64 0, u329005] 47 (0, 0))) := ⟨tH BK328.out⟩
           have n7_ : Aside0 (((((((w53.setCell ⟨gb330, 0, none⟩ (.int .i64 ((rd_T33 l0_5 x29_2).f0))).setCell ⟨gb330, 1, none⟩ (.int .i64 ((rd_T33 l0_5 x29_2).f1))).setCell ⟨gb330, 2, none⟩ (.bool ((rd_T33 l0_5 x29_2).f2))).setCell ⟨gb330, 3, none⟩ (.slice A329_3 ((rd_T33 l0_5 x29_2).f3).length c329_3)).setCell ⟨gb330, 4, none⟩ (.bool ((rd_T33 l0_5 x29_2).f4))).setCell ⟨gb330, 5, none⟩ (.slice A329_5 ((rd_T33 l0_5 x29_2).f5).length c329_5)).heap[gb330]? = some (.cells #[.int .i64 ((rd_T33 l0_5 x29_2).f0), .int .i64 ((rd_T33 l0_5 x29_2).f1), .bool ((rd_T33 l0_5 x29_2).f2), .slice A329_3 ((rd_T33 l0_5 x29_2).f3).length c329_3, .bool ((rd_T33 l0_5 x29_2).f4), .slice A329_5 ((rd_T33 l0_5 x29_2).f5).length c329_5] 33 (0, 0))) := ⟨tP BK330.out⟩
           have n8_ : Aside0 (Below w.heap.size w ((((((w53.setCell ⟨gb330, 0, none⟩ (.int .i64 ((rd_T33 l0_5 x29_2).f0))).setCell ⟨gb330, 1, none⟩ (.int .i64 ((rd_T33 l0_5 x29_2).f1))).setCell ⟨gb330, 2, none⟩ (.bool ((rd_T33 l0_5 x29_2).f2))).setCell ⟨gb330, 3, none⟩ (.slice A329_3 ((rd_T33 l0_5 x29_2).f3).length c329_3)).setCell ⟨gb330, 4, none⟩ (.bool ((rd_T33 l0_5 x29_2).f4))).setCell ⟨gb330, 5, none⟩ (.slice A329_5 ((rd_T33 l0_5 x29_2).f5).length c329_5))) := ⟨zb⟩
           (try clear HO_328005)
           (try clear HO_329005)
           (try clear BK323)
           (try clear BK324)
           (try clear BK325)
           (try clear BK327)
           (try clear BK328)
           (try clear BK330)
           (try clear HB)
           generalize ((((((w53.setCell ⟨gb330, 0, none⟩ (.int .i64 ((rd_T33 l0_5 x29_2).f0))).setCell ⟨gb330, 1, none⟩ (.int .i64 ((rd_T33 l0_5 x29_2).f1))).setCell ⟨gb330, 2, none⟩ (.bool ((rd_T33 l0_5 x29_2).f2))).setCell ⟨gb330, 3, none⟩ (.slice A329_3 ((rd_T33 l0_5 x29_2).f3).length c329_3)).setCell ⟨gb330, 4, none⟩ (.bool ((rd_T33 l0_5 x29_2).f4))).setCell ⟨gb330, 5, none⟩ (.slice A329_5 ((rd_T33 l0_5 x29_2).f5).length c329_5)) = w60 at n0_ n1_ n2_ n3_ n4_ n5_ n6_ n7_ n8_ ⊢
           have HO_328005 := n0_
           have HO_329005 := n1_
           have BK323 := n2_
           have BK324 := n3_
           have BK325 := n4_
           have BK327 := n5_
           have BK328 := n6_
           have BK330 := n7_
           have HB := n8_
           clear n0_ n1_ n2_ n3_ n4_ n5_ n6_ n7_ n8_
           replace HO_328005 := Aside0.mk (Kd.S_drew HO_328005.out)
           replace HO_329005 := Aside0.mk (Kd.S_drew HO_329005.out)
           replace BK323 := Aside0.mk (blk_drew BK323.out)
           replace BK324 := Aside0.mk (blk_drew BK324.out)
           replace BK325 := Aside0.mk (blk_drew BK325.out)
           replace BK327 := Aside0.mk (blk_drew BK327.out)
           replace BK328 := Aside0.mk (blk_drew BK328.out)
           replace BK330 := Aside0.mk (blk_drew BK330.out)
           replace HB := Aside0.mk (below_drew1 HB.out)
           refine start_ (n := 8) (S := fun w' => w'.cell? ⟨gb327, 0, none⟩ = some (.bool a0_0) ∧ w'.cell? ⟨gb327, 1, none⟩ = some (.bool false) ∧ w'.cell? ⟨gb327, 2, none⟩ = some (.int .i64 255) ∧ w'.cell? ⟨gb327, 3, none⟩ = some (.int .i64 0) ∧ w'.cell? ⟨gb327, 4, none⟩ = some (.int .i64 0) ∧ w'.cell? ⟨gb327, 5, none⟩ = some (u328005) ∧ w'.cell? ⟨gb330, 0, none⟩ = some (.int .i64 ((rd_T33 l0_5 x29_2).f0)) ∧ w'.cell? ⟨gb330, 1, none⟩ = some (.int .i64 ((rd_T33 l0_5 x29_2).f1)) ∧ w'.cell? ⟨gb330, 2, none⟩ = some (.bool ((rd_T33 l0_5 x29_2).f2)) ∧ w'.cell? ⟨gb330, 3, none⟩ = some (.slice A329_3 ((rd_T33 l0_5 x29_2).f3).length c329_3) ∧ w'.cell? ⟨gb330, 4, none⟩ = some (.bool ((rd_T33 l0_5 x29_2).f4)) ∧ w'.cell? ⟨gb330, 5, none⟩ = some (.slice A329_5 ((rd_T33 l0_5 x29_2).f5).length c329_5)) (ds := [7]) #[false, false, false, false, false, false, false, false] (by kernel_rfl) rfl rfl ⟨(blk_cell BK327.out 0).trans rfl, (blk_cell BK327.out 1).trans rfl, (blk_cell BK327.out 2).trans rfl, (blk_cell BK327.out 3).trans rfl, (blk_cell BK327.out 4).trans rfl, (blk_cell BK327.out 5).trans rfl, (blk_cell BK330.out 0).trans rfl, (blk_cell BK330.out 1).trans rfl, (blk_cell BK330.out 2).trans rfl, (blk_cell BK330.out 3).trans rfl, (blk_cell BK330.out 4).trans rfl, (blk_cell BK330.out 5).trans rfl⟩ (fun hHeld => ?_); refine with_tabW impl_Batch_cut.tab9 impl_Batch_cut.bits9 (fun HT_ HW_ => ?_)
           generalize w60.drew = w61 at HO_328005 HO_329005 BK323 BK324 BK325 BK327 BK328 BK330 HB hHeld ⊢
           refine pure_ (i := 0) (N := some 37) (v := ?_) (a' := ?_) #[true, false, false, false, false, false, false, false] rfl rfl (any_of HT_.out (by kernel_rfl)) (fun _ _ _ h => h) (Or.inl ⟨by rfl, ?_⟩) ?_ ?_
           rotate_left
           ·intro w'
            go_simp
            with_reducible rfl
           rotate_left
           ·simp only [Act.put, List.setIfInBounds_toArray, List.set_cons_zero, List.set_cons_succ, i64_w, i32_w]
            rfl
           refine take_ (i := 1) (N := some 38) (v := ?_) (a' := ?_) #[true, true, false, false, false, false, false, false] rfl rfl (take_ofW HT_.out HW_.out (by kernel_rfl)) (fun _ _ _ h => h) (Or.inl ⟨by rfl, ?_⟩) hHeld ?_ ?_
           rotate_left
           ·rintro w' ⟨s0, s1, s2, s3, s4, s5, s6, s7, s8, s9, s10, s11⟩
            go_simp
            with_reducible rfl
           rotate_left
           ·simp only [Act.put, List.setIfInBounds_toArray, List.set_cons_zero, List.set_cons_succ, i64_w, i32_w]
            rfl
           refine take_ (i := 2) (N := some 39) (v := ?_) (a' := ?_) #[true, true, true, false, false, false, false, false] rfl rfl (take_ofW HT_.out HW_.out (by kernel_rfl)) (fun _ _ _ h => h) (Or.inl ⟨by rfl, ?_⟩) hHeld ?_ ?_
           rotate_left
           ·rintro w' ⟨s0, s1, s2, s3, s4, s5, s6, s7, s8, s9, s10, s11⟩
            go_simp
            with_reducible rfl
           rotate_left
           ·simp only [Act.put, List.setIfInBounds_toArray, List.set_cons_zero, List.set_cons_succ, i64_w, i32_w]
            rfl
           refine one_ (i := 3) (N := some 40) #[true, true, true, true, false, false, false, false] rfl rfl (one_of HT_.out (by kernel_rfl)) (by decide) (fun K hK => ?_)
           refine goes_ Tryd.func55 (by kernel_rfl) rfl #[.agg #[.int .i64 ((rd_T33 l0_5 x29_2).f0), .int .i64 ((rd_T33 l0_5 x29_2).f1), .bool ((rd_T33 l0_5 x29_2).f2), .slice A329_3 ((rd_T33 l0_5 x29_2).f3).length c329_3, .bool ((rd_T33 l0_5 x29_2).f4), .slice A329_5 ((rd_T33 l0_5 x29_2).f5).length c329_5]] (by rfl) rfl rfl tq ?_
           with_reducible refine (impl_Record_copyOf.calls ((rd_T33 l0_5 x29_2).f0) ((rd_T33 l0_5 x29_2).f1) ((rd_T33 l0_5 x29_2).f2) _ _ ((rd_T33 l0_5 x29_2).f3) ((rd_T33 l0_5 x29_2).f4) _ _ ((rd_T33 l0_5 x29_2).f5) t331 t332 t333 t334 t337 t338 _ ?side1 ?side2 ?side3 ?side4 A51.out).mono ?_
           (case side1 => exact tC (Kd.C_below HR329_3.out HB.out))
           (case side2 => exact HC329_3.out)
           (case side3 => exact tC (Kd.C_below HR329_5.out HB.out))
           (case side4 => exact HC329_5.out)
           rintro e w62 ⟨v335, v339, rfl, ho0, ho1, hb⟩
           refine ⟨_, rfl, ?_⟩
           replace HO_328005 := Aside0.mk (Kd.S_mono (Kd.S_told (Kd.S_told (Kd.S_old (tS HO_328005.out) hb) (Kd.R_base ho0)) (Kd.R_base ho1)) (fun _ h_ => h_.1))
           replace HO_329005 := Aside0.mk (Kd.S_mono (Kd.S_told (Kd.S_told (Kd.S_old (tS HO_329005.out) hb) (Kd.R_base ho0)) (Kd.R_base ho1)) (fun _ h_ => h_.1))
           have HO336 := tRl ho0 HB
           have HO340 := tRl ho1 HB
           replace BK323 := tBb BK323 hb
           replace BK324 := tBb BK324 hb
           replace BK325 := tBb BK325 hb
           replace BK327 := tBb BK327 hb
           replace BK328 := tBb BK328 hb
           replace BK330 := tBb BK330 hb
           replace HB := tBs HB hb
           (try clear hb)
           (try clear hb2)
           (try clear hk)
           (try clear hi)
           (try clear ho0)
           (try clear ho1)
           obtain ⟨Ao64, co64, eo64⟩ := Kd.R_slice HO336.out
           (first | subst eo64 | (injection eo64 with f1_ f2_ f3_; have f4_ := f1_.symm; have f5_ := f3_.symm; clear f1_ f2_ f3_; subst f4_; subst f5_))
           obtain ⟨Ao65, co65, eo65⟩ := Kd.R_slice HO340.out
           (first | subst eo65 | (injection eo65 with f1_ f2_ f3_; have f4_ := f1_.symm; have f5_ := f3_.symm; clear f1_ f2_ f3_; subst f4_; subst f5_))
           refine hK.out _ _ ⟨(blk_cell BK327.out 0).trans rfl, (blk_cell BK327.out 1).trans rfl, (blk_cell BK327.out 2).trans rfl, (blk_cell BK327.out 3).trans rfl, (blk_cell BK327.out 4).trans rfl, (blk_cell BK327.out 5).trans rfl, (blk_cell BK330.out 0).trans rfl, (blk_cell BK330.out 1).trans rfl, (blk_cell BK330.out 2).trans rfl, (blk_cell BK330.out 3).trans rfl, (blk_cell BK330.out 4).trans rfl, (blk_cell BK330.out 5).trans rfl⟩ (fun hHeld => ?_)
           clear hK K
           refine norm_ (a' := ?_) ?_ ?_
           rotate_left
           ·show Act.put _ (some 40) _ = _
            simp only [Act.put, List.setIfInBounds_toArray, List.set_cons_zero, List.set_cons_succ, i64_w, i32_w]
            rfl
           refine one_ (i := 4) (N := some 41) #[true, true, true, true, true, false, false, false] rfl rfl (one_of HT_.out (by kernel_rfl)) (by decide) (fun K hK => ?_)
           refine value_ (w1 := ?_) (v := ?_) (by rfl) rfl ?_ ?_
           rotate_left 2
           ·go_simp
            constructor
            ·rfl
            ·rfl
           refine hK.out _ _ ⟨(blk_cell (blk_alloc BK327.out _) 0).trans rfl, (blk_cell (blk_alloc BK327.out _) 1).trans rfl, (blk_cell (blk_alloc BK327.out _) 2).trans rfl, (blk_cell (blk_alloc BK327.out _) 3).trans rfl, (blk_cell (blk_alloc BK327.out _) 4).trans rfl, (blk_cell (blk_alloc BK327.out _) 5).trans rfl, (blk_cell (blk_alloc BK330.out _) 0).trans rfl, (blk_cell (blk_alloc BK330.out _) 1).trans rfl, (blk_cell (blk_alloc BK330.out _) 2).trans rfl, (blk_cell (blk_alloc BK330.out _) 3).trans rfl, (blk_cell (blk_alloc BK330.out _) 4).trans rfl, (blk_cell (blk_alloc BK330.out _) 5).trans rfl⟩ (fun hHeld => ?_)
           clear hK K
           refine norm_ (a' := ?_) ?_ ?_
           rotate_left
           ·show Act.put _ (some 41) _ = _
            simp only [Act.put, List.setIfInBounds_toArray, List.set_cons_zero, List.set_cons_succ, i64_w, i32_w]
            rfl
           refine one_ (i := 5) (N := some 42) #[true, true, true, true, true, true, false, false] rfl rfl (one_of HT_.out (by kernel_rfl)) (by decide) (fun K hK => ?_)
           refine Kd.S_append_step k33 (w0 := w) w.heap.size (by rfl) (.tmp 38) (.tmp 41) 29 33 (.agg #[(.int .i64 0), (.int .i64 0), (.bool false), (.slice none 0 0), (.bool false), (.slice none 0 0)]) 80 rfl Tryd.underlying29 info33 rfl (by decide) (by omega) u328005 x328005_2 (⟨t331, t332, t333, t334, t337, t338⟩ : S33) [.int .i64 t331, .int .i64 t332, .bool t333, .slice Ao64 t334.length co64, .bool t337, .slice Ao65 t338.length co65] (fun k_ => some k_ ≠ (u329005 : Value).ownBlock ∧ k_ ≠ gb330) (fun k_ => some k_ = (.slice Ao64 t334.length co64 : Value).ownBlock ∨ some k_ = (.slice Ao65 t338.length co65 : Value).ownBlock) rfl rfl ?aP (fun k_ hk_ => hk_.elim (fun h_ => ((Kd.R_mono (ok' := fun k_ => ((fun k_ => some k_ ≠ (u329005 : Value).ownBlock ∧ k_ ≠ gb330)) k_ ∧ some k_ ≠ (u328005 : Value).ownBlock) (Kd.R_types (Kd.R_apart' (Kd.R_apart' (HO336.out) (Kd.S_typed HO_329005.out) (by decide)) (Kd.S_typed HO_328005.out) (by decide)) BK330.out (by decide)) (fun k_ hk => ⟨⟨hk.1.1.2, hk.2⟩, hk.1.2⟩))).1 k_ h_.symm) (fun h_ => ((Kd.R_mono (ok' := fun k_ => ((fun k_ => some k_ ≠ (u329005 : Value).ownBlock ∧ k_ ≠ gb330)) k_ ∧ some k_ ≠ (u328005 : Value).ownBlock) (Kd.R_types (Kd.R_apart' (Kd.R_apart' (HO340.out) (Kd.S_typed HO_329005.out) (by decide)) (Kd.S_typed HO_328005.out) (by decide)) BK330.out (by decide)) (fun k_ hk => ⟨⟨hk.1.1.2, hk.2⟩, hk.1.2⟩))).1 k_ h_.symm)) ?aF ?aO ?aB ?aS ?aL ?_
           (case aP => exact k33_mkM _ _ _ (⟨t331, t332, t333, t334, t337, t338⟩ : S33) (Kd.R_mono (Kd.R_tight rfl (Kd.R_mono (ok' := fun k_ => ((fun k_ => some k_ ≠ (u329005 : Value).ownBlock ∧ k_ ≠ gb330)) k_ ∧ some k_ ≠ (u328005 : Value).ownBlock) (Kd.R_types (Kd.R_apart' (Kd.R_apart' (HO336.out) (Kd.S_typed HO_329005.out) (by decide)) (Kd.S_typed HO_328005.out) (by decide)) BK330.out (by decide)) (fun k_ hk => ⟨⟨hk.1.1.2, hk.2⟩, hk.1.2⟩))) (fun _ h_ => Or.inl h_)) (Kd.R_mono (Kd.R_tight rfl (Kd.R_mono (ok' := fun k_ => ((fun k_ => some k_ ≠ (u329005 : Value).ownBlock ∧ k_ ≠ gb330)) k_ ∧ some k_ ≠ (u328005 : Value).ownBlock) (Kd.R_types (Kd.R_apart' (Kd.R_apart' (HO340.out) (Kd.S_typed HO_329005.out) (by decide)) (Kd.S_typed HO_328005.out) (by decide)) BK330.out (by decide)) (fun k_ hk => ⟨⟨hk.1.1.2, hk.2⟩, hk.1.2⟩))) (fun _ h_ => Or.inr (h_))))
           (case aB => exact zb)
           (case aF => exact (fun k_ hk => ⟨Kd.fresh' (Kd.S_lt (tS HO_329005.out)) k_ hk, tfB BK330 k_ hk⟩))
           (case aO => exact (tSm HO_328005.out))
           (case aS => exact (below_size zb))
           (case aL => have := LMc52.out; omega)
           intro v342 w63 ho hb hg hat
           rw [← Ny341.out] at ho
           replace HO_329005 := Aside0.mk (Kd.S_after (ok := (fun k_ => some k_ ≠ (.slice Ao64 t334.length co64 : Value).ownBlock ∧ some k_ ≠ (.slice Ao65 t338.length co65 : Value).ownBlock ∧ k_ ≠ gb330)) (tSm HO_329005.out) hg hat)
           replace BK323 := Aside0.mk (blk_grown (tH BK323.out) hg (Kd.S_ne HO_328005.out BK323.out (by decide)))
           replace BK324 := Aside0.mk (blk_grown (tH BK324.out) hg (Kd.S_ne HO_328005.out BK324.out (by decide)))
           replace BK325 := Aside0.mk (blk_grown (tH BK325.out) hg (Kd.S_ne HO_328005.out BK325.out (by decide)))
           replace BK327 := Aside0.mk (blk_grown (tH BK327.out) hg (Kd.S_ne HO_328005.out BK327.out (by decide)))
           replace BK328 := Aside0.mk (blk_grown (tH BK328.out) hg (Kd.S_ne HO_328005.out BK328.out (by decide)))
           replace BK330 := Aside0.mk (blk_grown (tH BK330.out) hg (Kd.S_away HO_328005.out (fun _ hk => hk.1.1.2)))
           replace HB := Aside0.mk (hb)
           have HO343 := Aside0.mk (ho)
           clear HO_328005 HO336 HO340
           clear ho hb hg hat
           obtain ⟨Ao66, co66, eo66⟩ := Kd.S_slice HO343.out
           (first | subst eo66 | (injection eo66 with f1_ f2_ f3_; have f4_ := f1_.symm; have f5_ := f3_.symm; clear f1_ f2_ f3_; subst f4_; subst f5_))
           refine hK.out _ _ ⟨(blk_cell BK327.out 0).trans rfl, (blk_cell BK327.out 1).trans rfl, (blk_cell BK327.out 2).trans rfl, (blk_cell BK327.out 3).trans rfl, (blk_cell BK327.out 4).trans rfl, (blk_cell BK327.out 5).trans rfl, (blk_cell BK330.out 0).trans rfl, (blk_cell BK330.out 1).trans rfl, (blk_cell BK330.out 2).trans rfl, (blk_cell BK330.out 3).trans rfl, (blk_cell BK330.out 4).trans rfl, (blk_cell BK330.out 5).trans rfl⟩ (fun hHeld => ?_)
           clear hK K
           refine norm_ (a' := ?_) ?_ ?_
           rotate_left
           ·show Act.put _ (some 42) _ = _
            simp only [Act.put, List.setIfInBounds_toArray, List.set_cons_zero, List.set_cons_succ, i64_w, i32_w]
            rfl
           refine pure_ (i := 6) (N := some 43) (v := ?_) (a' := ?_) #[true, true, true, true, true, true, true, false] rfl rfl (any_of HT_.out (by kernel_rfl)) (fun _ _ _ h => h) (Or.inl ⟨by rfl, ?_⟩) ?_ ?_
           rotate_left
           ·intro w'
            go_simp
            with_reducible rfl
           rotate_left
           ·simp only [Act.put, List.setIfInBounds_toArray, List.set_cons_zero, List.set_cons_succ, i64_w, i32_w]
            rfl
           refine last_ (i := 7) (N := none) #[true, true, true, true, true, true, true, true] rfl rfl (one_of HT_.out (by kernel_rfl)) (by decide) (fun K hK => ?_)
           have hs67 : w63.cell? ⟨gb327, 5, none⟩ = some (u328005) := (blk_cell BK327.out 5).trans rfl
           have hfs67 := blk_frozen BK327.out 5
           have hns67_0 := NB323_327.out
           have hns67_1 := NB324_327.out
           have hns67_2 := NB325_327.out
           have hns67_4 := NB328_327.out
           have hns67_5 := NB330_327.out
           have hms67_0 := NB327_323.out
           have hms67_1 := NB327_324.out
           have hms67_2 := NB327_325.out
           have hms67_4 := NB327_328.out
           have hms67_5 := NB327_330.out
           refine skip_ (w1 := ?_) (by rfl) rfl ?_ ?_
           rotate_left
           ·go_simp
            rfl
           refine hK.out _ _ ?_
           clear hK K
           refine done_ (done_of HT_.out (by kernel_rfl)) ?_
           try go_wp2
           go_roundg k2
           case measure => have := HJ2.out; have := HK2.out; omega
           case rel => exact ⟨(wrap64 (x29_2 + 1)), (y341), (x329005_2), (.slice Ao66 y341.length co66), (u329005), tr, H', ⟨by have := HJ2.out; have := HK2.out; omega⟩, ⟨tSm (Kd.S_types HO343.out BK327.out (by decide))⟩, ⟨tSm (Kd.S_types HO_329005.out BK327.out (by decide))⟩, ⟨tH BK323.out⟩, ⟨tH BK324.out⟩, ⟨tH BK325.out⟩, ⟨tP BK327.out⟩, ⟨tH BK328.out⟩, ⟨zb⟩⟩
          ·rw [if_neg c52] at H
           exact absurd H (by simp)
         ·rw [if_neg c50] at H
          have c50b0 : decide (((rd_T33 l0_5 x29_2).f0) < a1) = false := decide_eq_false c50
          clear c50
          replace H := tbe H
          obtain ⟨⟨t344, t345, t346, t347, t350, t351⟩, A68, H⟩ := H
          dsimp only at H
          by_cases c69 : x329005_2.length < 1759218604441
          ·rw [if_pos c69] at H
           have LMc69 := Aside0.mk c69
           clear c69
           obtain ⟨y354, hy354⟩ : ∃ y_ : List (S33), y_ = (x329005_2 ++ [(⟨t344, t345, t346, t347, t350, t351⟩ : S33)]) := ⟨_, rfl⟩
           replace H : (impl_Batch_cut.l0 k2 a1 l0_5 (l0_5.length : Int) (wrap64 (x29_2 + 1)) a0_0 false 255 0 0 x328005_2 a0_0 false 255 0 0 y354) = some (r1, r2, r3, r4, r5, r6, r7, r8, r9, r10, r11, r12, r13) := by first | (rw [hy354]; with_reducible exact H) | (have H2_ := (Option.bind_some _ _).symm.trans H; rw [hy354]; with_reducible exact H2_) | (have H2_ := (Option.bind_some _ _).symm.trans H; with_reducible exact H2_) | with_reducible exact H | (rw [hy354]; exact H) | exact H
           have Ny354 := Aside0.mk hy354
           clear hy354
           have H' := Aside0.mk H
           clear H
           have p329 : 0 ≤ (x29_2 : Int) := td
           have q329 : x29_2 < (l0_5.length : Int) := td
           obtain ⟨ad329, A329_3, c329_3, A329_5, c329_5, e329, hx329_0, hx329_1, hx329_2, hx329_3, hx329_4, hx329_5, hl329_3, hi329_3, hl329_5, hi329_5⟩ := at_T33 HR0_5.out x29_2 p329 q329
           cases e329
           replace hx329_0 := tcl HB hx329_0
           replace hx329_1 := tcl HB hx329_1
           replace hx329_2 := tcl HB hx329_2
           replace hx329_3 := tcl HB hx329_3
           replace hx329_4 := tcl HB hx329_4
           replace hx329_5 := tcl HB hx329_5
           have HR329_3 := Aside0.mk hi329_3
           have HC329_3 := Aside0.mk hl329_3
           clear hi329_3 hl329_3
           have HR329_5 := Aside0.mk hi329_5
           have HC329_5 := Aside0.mk hl329_5
           clear hi329_5 hl329_5
           replace p329 := eq_true p329
           replace q329 := eq_true q329
           try go_wp2_with (first | ((with_reducible refine gate_dst (N := 64) rfl ?_); refine glob_ rfl (v := .iface 151 (.pointer (some (ErrA.errA 2)))) (g := 1) ?hr ?hc ?_; (case hc => exact ErrOk.g1 (ErrOk.below HE.out zb) (by decide)); (case hr => intro W_ hc_; go_simp)) | ((with_reducible refine gate_dst (N := 21) rfl ?_); refine glob_ rfl (v := .iface 151 (.pointer (some (ErrA.errA 2)))) (g := 1) ?hr ?hc ?_; (case hc => exact ErrOk.g1 (ErrOk.below HE.out zb) (by decide)); (case hr => intro W_ hc_; go_simp)) | ((with_reducible refine gate_dst (N := 10) rfl ?_); (try (refine gate_guard (by rfl) ?_; dsimp only)); refine box_event ?hg (N := 10) ?hd (cs := #[.int .i64 0, .int .i64 0, .bool false, .slice none 0 0, .bool false, .slice none 0 0]) (t := 33) ?hr ?_; (case hd => rfl); (case hg => rfl); (case hr => first | (go_simp; done) | (go_simp; rfl)); intro gb330 hg w70 hbox hb; replace HO_328005 := tSB HO_328005 hg hb; replace HO_329005 := tSB HO_329005 hg hb; have BK330 := Aside0.mk (hbox); have GW330 := tge HB hg; have GE330 := tge HB hg; replace HB := tBs HB hb; have NB323_330 := tlt BK323 hg; have NB330_323 := tgt BK323 hg; replace BK323 := tBb BK323 hb; have NB324_330 := tlt BK324 hg; have NB330_324 := tgt BK324 hg; replace BK324 := tBb BK324 hb; have NB325_330 := tlt BK325 hg; have NB330_325 := tgt BK325 hg; replace BK325 := tBb BK325 hb; have NB327_330 := tlt BK327 hg; have NB330_327 := tgt BK327 hg; replace BK327 := tBb BK327 hb; have NB328_330 := tlt BK328 hg; have NB330_328 := tgt BK328 hg; replace BK328 := tBb BK328 hb; clear hb hbox hg; have hnb71 := NB330_323.out; have hnc71 := NB323_330.out; have hnb72 := NB330_324.out; have hnc72 := NB324_330.out; have hnb73 := NB330_325.out; have hnc73 := NB325_330.out; have hnb74 := NB330_327.out; have hnc74 := NB327_330.out; have hnb75 := NB330_328.out; have hnc75 := NB328_330.out; obtain ⟨hcz76_0, hcz76_1, hcz76_2, hcz76_3, hcz76_4, hcz76_5, hfz76_0, hfz76_1, hfz76_2, hfz76_3, hfz76_4, hfz76_5⟩ := cells6 BK330.out))
           have n0_ : Aside0 (Kd.S k33 33 ((((((w70.setCell ⟨gb330, 0, none⟩ (.int .i64 ((rd_T33 l0_5 x29_2).f0))).setCell ⟨gb330, 1, none⟩ (.int .i64 ((rd_T33 l0_5 x29_2).f1))).setCell ⟨gb330, 2, none⟩ (.bool ((rd_T33 l0_5 x29_2).f2))).setCell ⟨gb330, 3, none⟩ (.slice A329_3 ((rd_T33 l0_5 x29_2).f3).length c329_3)).setCell ⟨gb330, 4, none⟩ (.bool ((rd_T33 l0_5 x29_2).f4))).setCell ⟨gb330, 5, none⟩ (.slice A329_5 ((rd_T33 l0_5 x29_2).f5).length c329_5)) w.heap.size (fun k_ => some k_ ≠ (u329005 : Value).ownBlock ∧ k_ ≠ gb330) u328005 x328005_2) := ⟨tSm HO_328005.out⟩
           have n1_ : Aside0 (Kd.S k33 33 ((((((w70.setCell ⟨gb330, 0, none⟩ (.int .i64 ((rd_T33 l0_5 x29_2).f0))).setCell ⟨gb330, 1, none⟩ (.int .i64 ((rd_T33 l0_5 x29_2).f1))).setCell ⟨gb330, 2, none⟩ (.bool ((rd_T33 l0_5 x29_2).f2))).setCell ⟨gb330, 3, none⟩ (.slice A329_3 ((rd_T33 l0_5 x29_2).f3).length c329_3)).setCell ⟨gb330, 4, none⟩ (.bool ((rd_T33 l0_5 x29_2).f4))).setCell ⟨gb330, 5, none⟩ (.slice A329_5 ((rd_T33 l0_5 x29_2).f5).length c329_5)) w.heap.size (fun k_ => some k_ ≠ (u328005 : Value).ownBlock ∧ k_ ≠ gb330) u329005 x329005_2) := ⟨tSm HO_329005.out⟩
           have n2_ : Aside0 (((((((w70.setCell ⟨gb330, 0, none⟩ (.int .i64 ((rd_T33 l0_5 x29_2).f0))).setCell ⟨gb330, 1, none⟩ (.int .i64 ((rd_T33 l0_5 x29_2).f1))).setCell ⟨gb330, 2, none⟩ (.bool ((rd_T33 l0_5 x29_2).f2))).setCell ⟨gb330, 3, none⟩ (.slice A329_3 ((rd_T33 l0_5 x29_2).f3).length c329_3)).setCell ⟨gb330, 4, none⟩ (.bool ((rd_T33 l0_5 x29_2).f4))).setCell ⟨gb330, 5, none⟩ (.slice A329_5 ((rd_T33 l0_5 x29_2).f5).length c329_5)).heap[gb323]? = some (.cells #[.bool a0_0, .bool a0_1, .int .i64 a0_2, .int .i64 a0_3, .int .i64 a0_4, .slice (some ad329) l0_5.length c0_5] 47 (0, 0))) := ⟨tH BK323.out⟩
           have n3_ : Aside0 (((((((w70.setCell ⟨gb330, 0, none⟩ (.int .i64 ((rd_T33 l0_5 x29_2).f0))).setCell ⟨gb330, 1, none⟩ (.int .i64 ((rd_T33 l0_5 x29_2).f1))).setCell ⟨gb330, 2, none⟩ (.bool ((rd_T33 l0_5 x29_2).f2))).setCell ⟨gb330, 3, none⟩ (.slice A329_3 ((rd_T33 l0_5 x29_2).f3).length c329_3)).setCell ⟨gb330, 4, none⟩ (.bool ((rd_T33 l0_5 x29_2).f4))).setCell ⟨gb330, 5, none⟩ (.slice A329_5 ((rd_T33 l0_5 x29_2).f5).length c329_5)).heap[gb324]? = some (.cells #[.bool false, .bool false, .int .i64 0, .int .i64 0, .int .i64 0, .slice none 0 0] 47 (0, 0))) := ⟨tH BK324.out⟩
           have n4_ : Aside0 (((((((w70.setCell ⟨gb330, 0, none⟩ (.int .i64 ((rd_T33 l0_5 x29_2).f0))).setCell ⟨gb330, 1, none⟩ (.int .i64 ((rd_T33 l0_5 x29_2).f1))).setCell ⟨gb330, 2, none⟩ (.bool ((rd_T33 l0_5 x29_2).f2))).setCell ⟨gb330, 3, none⟩ (.slice A329_3 ((rd_T33 l0_5 x29_2).f3).length c329_3)).setCell ⟨gb330, 4, none⟩ (.bool ((rd_T33 l0_5 x29_2).f4))).setCell ⟨gb330, 5, none⟩ (.slice A329_5 ((rd_T33 l0_5 x29_2).f5).length c329_5)).heap[gb325]? = some (.cells #[.bool false, .bool false, .int .i64 0, .int .i64 0, .int .i64 0, .slice none 0 0] 47 (0, 0))) := ⟨tH BK325.out⟩
           have n5_ : Aside0 (((((((w70.setCell ⟨gb330, 0, none⟩ (.int .i64 ((rd_T33 l0_5 x29_2).f0))).setCell ⟨gb330, 1, none⟩ (.int .i64 ((rd_T33 l0_5 x29_2).f1))).setCell ⟨gb330, 2, none⟩ (.bool ((rd_T33 l0_5 x29_2).f2))).setCell ⟨gb330, 3, none⟩ (.slice A329_3 ((rd_T33 l0_5 x29_2).f3).length c329_3)).setCell ⟨gb330, 4, none⟩ (.bool ((rd_T33 l0_5 x29_2).f4))).setCell ⟨gb330, 5, none⟩ (.slice A329_5 ((rd_T33 l0_5 x29_2).f5).length c329_5)).heap[gb327]? = some (.cells #[.bool a0_0, .bool false, .int .i64 255, .int .i64 0, .int .i64 0, u328005] 47 (0, 0))) := ⟨tH BK327.out⟩
           have n6_ : Aside0 (((((((w70.setCell ⟨gb330, 0, none⟩ (.int .i64 ((rd_T33 l0_5 x29_2).f0))).setCell ⟨gb330, 1, none⟩ (.int .i64 ((rd_T33 l0_5 x29_2).f1))).setCell ⟨gb330, 2, none⟩ (.bool ((rd_T33 l0_5 x29_2).f2))).setCell ⟨gb330, 3, none⟩ (.slice A329_3 ((rd_T33 l0_5 x29_2).f3).length c329_3)).setCell ⟨gb330, 4, none⟩ (.bool ((rd_T33 l0_5 x29_2).f4))).setCell ⟨gb330, 5, none⟩ (.slice A329_5 ((rd_T33 l0_5 x29_2).f5).length c329_5)).heap[gb328]? = some (.cells #[.bool a0_0, .bool false, .int .i64 255, .int .i64 0, .int .i64 0, u329005] 47 (0, 0))) := ⟨tH BK328.out⟩
           have n7_ : Aside0 (((((((w70.setCell ⟨gb330, 0, none⟩ (.int .i64 ((rd_T33 l0_5 x29_2).f0))).setCell ⟨gb330, 1, none⟩ (.int .i64 ((rd_T33 l0_5 x29_2).f1))).setCell ⟨gb330, 2, none⟩ (.bool ((rd_T33 l0_5 x29_2).f2))).setCell ⟨gb330, 3, none⟩ (.slice A329_3 ((rd_T33 l0_5 x29_2).f3).length c329_3)).setCell ⟨gb330, 4, none⟩ (.bool ((rd_T33 l0_5 x29_2).f4))).setCell ⟨gb330, 5, none⟩ (.slice A329_5 ((rd_T33 l0_5 x29_2).f5).length c329_5)).heap[gb330]? = some (.cells #[.int .i64 ((rd_T33 l0_5 x29_2).f0), .int .i64 ((rd_T33 l0_5 x29_2).f1), .bool ((rd_T33 l0_5 x29_2).f2), .slice A329_3 ((rd_T33 l0_5 x29_2).f3).length c329_3, .bool ((rd_T33 l0_5 x29_2).f4), .slice A329_5 ((rd_T33 l0_5 x29_2).f5).length c329_5] 33 (0, 0))) := ⟨tP BK330.out⟩
           have n8_ : Aside0 (Below w.heap.size w ((((((w70.setCell ⟨gb330, 0, none⟩ (.int .i64 ((rd_T33 l0_5 x29_2).f0))).setCell ⟨gb330, 1, none⟩ (.int .i64 ((rd_T33 l0_5 x29_2).f1))).setCell ⟨gb330, 2, none⟩ (.bool ((rd_T33 l0_5 x29_2).f2))).setCell ⟨gb330, 3, none⟩ (.slice A329_3 ((rd_T33 l0_5 x29_2).f3).length c329_3)).setCell ⟨gb330, 4, none⟩ (.bool ((rd_T33 l0_5 x29_2).f4))).setCell ⟨gb330, 5, none⟩ (.slice A329_5 ((rd_T33 l0_5 x29_2).f5).length c329_5))) := ⟨zb⟩
           (try clear HO_328005)
           (try clear HO_329005)
           (try clear BK323)
           (try clear BK324)
           (try clear BK325)
           (try clear BK327)
           (try clear BK328)
           (try clear BK330)
           (try clear HB)
           generalize ((((((w70.setCell ⟨gb330, 0, none⟩ (.int .i64 ((rd_T33 l0_5 x29_2).f0))).setCell ⟨gb330, 1, none⟩ (.int .i64 ((rd_T33 l0_5 x29_2).f1))).setCell ⟨gb330, 2, none⟩ (.bool ((rd_T33 l0_5 x29_2).f2))).setCell ⟨gb330, 3, none⟩ (.slice A329_3 ((rd_T33 l0_5 x29_2).f3).length c329_3)).setCell ⟨gb330, 4, none⟩ (.bool ((rd_T33 l0_5 x29_2).f4))).setCell ⟨gb330, 5, none⟩ (.slice A329_5 ((rd_T33 l0_5 x29_2).f5).length c329_5)) = w77 at n0_ n1_ n2_ n3_ n4_ n5_ n6_ n7_ n8_ ⊢
           have HO_328005 := n0_
           have HO_329005 := n1_
           have BK323 := n2_
           have BK324 := n3_
           have BK325 := n4_
           have BK327 := n5_
           have BK328 := n6_
           have BK330 := n7_
           have HB := n8_
           clear n0_ n1_ n2_ n3_ n4_ n5_ n6_ n7_ n8_
           replace HO_328005 := Aside0.mk (Kd.S_drew HO_328005.out)
           replace HO_329005 := Aside0.mk (Kd.S_drew HO_329005.out)
           replace BK323 := Aside0.mk (blk_drew BK323.out)
           replace BK324 := Aside0.mk (blk_drew BK324.out)
           replace BK325 := Aside0.mk (blk_drew BK325.out)
           replace BK327 := Aside0.mk (blk_drew BK327.out)
           replace BK328 := Aside0.mk (blk_drew BK328.out)
           replace BK330 := Aside0.mk (blk_drew BK330.out)
           replace HB := Aside0.mk (below_drew1 HB.out)
           refine start_ (n := 8) (S := fun w' => w'.cell? ⟨gb328, 0, none⟩ = some (.bool a0_0) ∧ w'.cell? ⟨gb328, 1, none⟩ = some (.bool false) ∧ w'.cell? ⟨gb328, 2, none⟩ = some (.int .i64 255) ∧ w'.cell? ⟨gb328, 3, none⟩ = some (.int .i64 0) ∧ w'.cell? ⟨gb328, 4, none⟩ = some (.int .i64 0) ∧ w'.cell? ⟨gb328, 5, none⟩ = some (u329005) ∧ w'.cell? ⟨gb330, 0, none⟩ = some (.int .i64 ((rd_T33 l0_5 x29_2).f0)) ∧ w'.cell? ⟨gb330, 1, none⟩ = some (.int .i64 ((rd_T33 l0_5 x29_2).f1)) ∧ w'.cell? ⟨gb330, 2, none⟩ = some (.bool ((rd_T33 l0_5 x29_2).f2)) ∧ w'.cell? ⟨gb330, 3, none⟩ = some (.slice A329_3 ((rd_T33 l0_5 x29_2).f3).length c329_3) ∧ w'.cell? ⟨gb330, 4, none⟩ = some (.bool ((rd_T33 l0_5 x29_2).f4)) ∧ w'.cell? ⟨gb330, 5, none⟩ = some (.slice A329_5 ((rd_T33 l0_5 x29_2).f5).length c329_5)) (ds := [7]) #[false, false, false, false, false, false, false, false] (by kernel_rfl) rfl rfl ⟨(blk_cell BK328.out 0).trans rfl, (blk_cell BK328.out 1).trans rfl, (blk_cell BK328.out 2).trans rfl, (blk_cell BK328.out 3).trans rfl, (blk_cell BK328.out 4).trans rfl, (blk_cell BK328.out 5).trans rfl, (blk_cell BK330.out 0).trans rfl, (blk_cell BK330.out 1).trans rfl, (blk_cell BK330.out 2).trans rfl, (blk_cell BK330.out 3).trans rfl, (blk_cell BK330.out 4).trans rfl, (blk_cell BK330.out 5).trans rfl⟩ (fun hHeld => ?_); refine with_tabW impl_Batch_cut.tab10 impl_Batch_cut.bits10 (fun HT_ HW_ => ?_)
           generalize w77.drew = w78 at HO_328005 HO_329005 BK323 BK324 BK325 BK327 BK328 BK330 HB hHeld ⊢
           refine pure_ (i := 0) (N := some 44) (v := ?_) (a' := ?_) #[true, false, false, false, false, false, false, false] rfl rfl (any_of HT_.out (by kernel_rfl)) (fun _ _ _ h => h) (Or.inl ⟨by rfl, ?_⟩) ?_ ?_
           rotate_left
           ·intro w'
            go_simp
            with_reducible rfl
           rotate_left
           ·simp only [Act.put, List.setIfInBounds_toArray, List.set_cons_zero, List.set_cons_succ, i64_w, i32_w]
            rfl
           refine take_ (i := 1) (N := some 45) (v := ?_) (a' := ?_) #[true, true, false, false, false, false, false, false] rfl rfl (take_ofW HT_.out HW_.out (by kernel_rfl)) (fun _ _ _ h => h) (Or.inl ⟨by rfl, ?_⟩) hHeld ?_ ?_
           rotate_left
           ·rintro w' ⟨s0, s1, s2, s3, s4, s5, s6, s7, s8, s9, s10, s11⟩
            go_simp
            with_reducible rfl
           rotate_left
           ·simp only [Act.put, List.setIfInBounds_toArray, List.set_cons_zero, List.set_cons_succ, i64_w, i32_w]
            rfl
           refine take_ (i := 2) (N := some 46) (v := ?_) (a' := ?_) #[true, true, true, false, false, false, false, false] rfl rfl (take_ofW HT_.out HW_.out (by kernel_rfl)) (fun _ _ _ h => h) (Or.inl ⟨by rfl, ?_⟩) hHeld ?_ ?_
           rotate_left
           ·rintro w' ⟨s0, s1, s2, s3, s4, s5, s6, s7, s8, s9, s10, s11⟩
            go_simp
            with_reducible rfl
           rotate_left
           ·simp only [Act.put, List.setIfInBounds_toArray, List.set_cons_zero, List.set_cons_succ, i64_w, i32_w]
            rfl
           refine one_ (i := 3) (N := some 47) #[true, true, true, true, false, false, false, false] rfl rfl (one_of HT_.out (by kernel_rfl)) (by decide) (fun K hK => ?_)
           refine goes_ Tryd.func55 (by kernel_rfl) rfl #[.agg #[.int .i64 ((rd_T33 l0_5 x29_2).f0), .int .i64 ((rd_T33 l0_5 x29_2).f1), .bool ((rd_T33 l0_5 x29_2).f2), .slice A329_3 ((rd_T33 l0_5 x29_2).f3).length c329_3, .bool ((rd_T33 l0_5 x29_2).f4), .slice A329_5 ((rd_T33 l0_5 x29_2).f5).length c329_5]] (by rfl) rfl rfl tq ?_
           with_reducible refine (impl_Record_copyOf.calls ((rd_T33 l0_5 x29_2).f0) ((rd_T33 l0_5 x29_2).f1) ((rd_T33 l0_5 x29_2).f2) _ _ ((rd_T33 l0_5 x29_2).f3) ((rd_T33 l0_5 x29_2).f4) _ _ ((rd_T33 l0_5 x29_2).f5) t344 t345 t346 t347 t350 t351 _ ?side1 ?side2 ?side3 ?side4 A68.out).mono ?_
           (case side1 => exact tC (Kd.C_below HR329_3.out HB.out))
           (case side2 => exact HC329_3.out)
           (case side3 => exact tC (Kd.C_below HR329_5.out HB.out))
           (case side4 => exact HC329_5.out)
           rintro e w79 ⟨v348, v352, rfl, ho0, ho1, hb⟩
           refine ⟨_, rfl, ?_⟩
           replace HO_328005 := Aside0.mk (Kd.S_mono (Kd.S_told (Kd.S_told (Kd.S_old (tS HO_328005.out) hb) (Kd.R_base ho0)) (Kd.R_base ho1)) (fun _ h_ => h_.1))
           replace HO_329005 := Aside0.mk (Kd.S_mono (Kd.S_told (Kd.S_told (Kd.S_old (tS HO_329005.out) hb) (Kd.R_base ho0)) (Kd.R_base ho1)) (fun _ h_ => h_.1))
           have HO349 := tRl ho0 HB
           have HO353 := tRl ho1 HB
           replace BK323 := tBb BK323 hb
           replace BK324 := tBb BK324 hb
           replace BK325 := tBb BK325 hb
           replace BK327 := tBb BK327 hb
           replace BK328 := tBb BK328 hb
           replace BK330 := tBb BK330 hb
           replace HB := tBs HB hb
           (try clear hb)
           (try clear hb2)
           (try clear hk)
           (try clear hi)
           (try clear ho0)
           (try clear ho1)
           obtain ⟨Ao81, co81, eo81⟩ := Kd.R_slice HO349.out
           (first | subst eo81 | (injection eo81 with f1_ f2_ f3_; have f4_ := f1_.symm; have f5_ := f3_.symm; clear f1_ f2_ f3_; subst f4_; subst f5_))
           obtain ⟨Ao82, co82, eo82⟩ := Kd.R_slice HO353.out
           (first | subst eo82 | (injection eo82 with f1_ f2_ f3_; have f4_ := f1_.symm; have f5_ := f3_.symm; clear f1_ f2_ f3_; subst f4_; subst f5_))
           refine hK.out _ _ ⟨(blk_cell BK328.out 0).trans rfl, (blk_cell BK328.out 1).trans rfl, (blk_cell BK328.out 2).trans rfl, (blk_cell BK328.out 3).trans rfl, (blk_cell BK328.out 4).trans rfl, (blk_cell BK328.out 5).trans rfl, (blk_cell BK330.out 0).trans rfl, (blk_cell BK330.out 1).trans rfl, (blk_cell BK330.out 2).trans rfl, (blk_cell BK330.out 3).trans rfl, (blk_cell BK330.out 4).trans rfl, (blk_cell BK330.out 5).trans rfl⟩ (fun hHeld => ?_)
           clear hK K
           refine norm_ (a' := ?_) ?_ ?_
           rotate_left
           ·show Act.put _ (some 47) _ = _
            simp only [Act.put, List.setIfInBounds_toArray, List.set_cons_zero, List.set_cons_succ, i64_w, i32_w]
            rfl
           refine one_ (i := 4) (N := some 48) #[true, true, true, true, true, false, false, false] rfl rfl (one_of HT_.out (by kernel_rfl)) (by decide) (fun K hK => ?_)
           refine value_ (w1 := ?_) (v := ?_) (by rfl) rfl ?_ ?_
           rotate_left 2
           ·go_simp
            constructor
            ·rfl
            ·rfl
           refine hK.out _ _ ⟨(blk_cell (blk_alloc BK328.out _) 0).trans rfl, (blk_cell (blk_alloc BK328.out _) 1).trans rfl, (blk_cell (blk_alloc BK328.out _) 2).trans rfl, (blk_cell (blk_alloc BK328.out _) 3).trans rfl, (blk_cell (blk_alloc BK328.out _) 4).trans rfl, (blk_cell (blk_alloc BK328.out _) 5).trans rfl, (blk_cell (blk_alloc BK330.out _) 0).trans rfl, (blk_cell (blk_alloc BK330.out _) 1).trans rfl, (blk_cell (blk_alloc BK330.out _) 2).trans rfl, (blk_cell (blk_alloc BK330.out _) 3).trans rfl, (blk_cell (blk_alloc BK330.out _) 4).trans rfl, (blk_cell (blk_alloc BK330.out _) 5).trans rfl⟩ (fun hHeld => ?_)
           clear hK K
           refine norm_ (a' := ?_) ?_ ?_
           rotate_left
           ·show Act.put _ (some 48) _ = _
            simp only [Act.put, List.setIfInBounds_toArray, List.set_cons_zero, List.set_cons_succ, i64_w, i32_w]
            rfl
           refine one_ (i := 5) (N := some 49) #[true, true, true, true, true, true, false, false] rfl rfl (one_of HT_.out (by kernel_rfl)) (by decide) (fun K hK => ?_)
           refine Kd.S_append_step k33 (w0 := w) w.heap.size (by rfl) (.tmp 45) (.tmp 48) 29 33 (.agg #[(.int .i64 0), (.int .i64 0), (.bool false), (.slice none 0 0), (.bool false), (.slice none 0 0)]) 80 rfl Tryd.underlying29 info33 rfl (by decide) (by omega) u329005 x329005_2 (⟨t344, t345, t346, t347, t350, t351⟩ : S33) [.int .i64 t344, .int .i64 t345, .bool t346, .slice Ao81 t347.length co81, .bool t350, .slice Ao82 t351.length co82] (fun k_ => some k_ ≠ (u328005 : Value).ownBlock ∧ k_ ≠ gb330) (fun k_ => some k_ = (.slice Ao81 t347.length co81 : Value).ownBlock ∨ some k_ = (.slice Ao82 t351.length co82 : Value).ownBlock) rfl rfl ?aP (fun k_ hk_ => hk_.elim (fun h_ => ((Kd.R_mono (ok' := fun k_ => ((fun k_ => some k_ ≠ (u328005 : Value).ownBlock ∧ k_ ≠ gb330)) k_ ∧ some k_ ≠ (u329005 : Value).ownBlock) (Kd.R_types (Kd.R_apart' (Kd.R_apart' (HO349.out) (Kd.S_typed HO_328005.out) (by decide)) (Kd.S_typed HO_329005.out) (by decide)) BK330.out (by decide)) (fun k_ hk => ⟨⟨hk.1.1.2, hk.2⟩, hk.1.2⟩))).1 k_ h_.symm) (fun h_ => ((Kd.R_mono (ok' := fun k_ => ((fun k_ => some k_ ≠ (u328005 : Value).ownBlock ∧ k_ ≠ gb330)) k_ ∧ some k_ ≠ (u329005 : Value).ownBlock) (Kd.R_types (Kd.R_apart' (Kd.R_apart' (HO353.out) (Kd.S_typed HO_328005.out) (by decide)) (Kd.S_typed HO_329005.out) (by decide)) BK330.out (by decide)) (fun k_ hk => ⟨⟨hk.1.1.2, hk.2⟩, hk.1.2⟩))).1 k_ h_.symm)) ?aF ?aO ?aB ?aS ?aL ?_
           (case aP => exact k33_mkM _ _ _ (⟨t344, t345, t346, t347, t350, t351⟩ : S33) (Kd.R_mono (Kd.R_tight rfl (Kd.R_mono (ok' := fun k_ => ((fun k_ => some k_ ≠ (u328005 : Value).ownBlock ∧ k_ ≠ gb330)) k_ ∧ some k_ ≠ (u329005 : Value).ownBlock) (Kd.R_types (Kd.R_apart' (Kd.R_apart' (HO349.out) (Kd.S_typed HO_328005.out) (by decide)) (Kd.S_typed HO_329005.out) (by decide)) BK330.out (by decide)) (fun k_ hk => ⟨⟨hk.1.1.2, hk.2⟩, hk.1.2⟩))) (fun _ h_ => Or.inl h_)) (Kd.R_mono (Kd.R_tight rfl (Kd.R_mono (ok' := fun k_ => ((fun k_ => some k_ ≠ (u328005 : Value).ownBlock ∧ k_ ≠ gb330)) k_ ∧ some k_ ≠ (u329005 : Value).ownBlock) (Kd.R_types (Kd.R_apart' (Kd.R_apart' (HO353.out) (Kd.S_typed HO_328005.out) (by decide)) (Kd.S_typed HO_329005.out) (by decide)) BK330.out (by decide)) (fun k_ hk => ⟨⟨hk.1.1.2, hk.2⟩, hk.1.2⟩))) (fun _ h_ => Or.inr (h_))))
           (case aB => exact zb)
           (case aF => exact (fun k_ hk => ⟨Kd.fresh' (Kd.S_lt (tS HO_328005.out)) k_ hk, tfB BK330 k_ hk⟩))
           (case aO => exact (tSm HO_329005.out))
           (case aS => exact (below_size zb))
           (case aL => have := LMc69.out; omega)
           intro v355 w80 ho hb hg hat
           rw [← Ny354.out] at ho
           replace HO_328005 := Aside0.mk (Kd.S_after (ok := (fun k_ => some k_ ≠ (.slice Ao81 t347.length co81 : Value).ownBlock ∧ some k_ ≠ (.slice Ao82 t351.length co82 : Value).ownBlock ∧ k_ ≠ gb330)) (tSm HO_328005.out) hg hat)
           replace BK323 := Aside0.mk (blk_grown (tH BK323.out) hg (Kd.S_ne HO_329005.out BK323.out (by decide)))
           replace BK324 := Aside0.mk (blk_grown (tH BK324.out) hg (Kd.S_ne HO_329005.out BK324.out (by decide)))
           replace BK325 := Aside0.mk (blk_grown (tH BK325.out) hg (Kd.S_ne HO_329005.out BK325.out (by decide)))
           replace BK327 := Aside0.mk (blk_grown (tH BK327.out) hg (Kd.S_ne HO_329005.out BK327.out (by decide)))
           replace BK328 := Aside0.mk (blk_grown (tH BK328.out) hg (Kd.S_ne HO_329005.out BK328.out (by decide)))
           replace BK330 := Aside0.mk (blk_grown (tH BK330.out) hg (Kd.S_away HO_329005.out (fun _ hk => hk.1.1.2)))
           replace HB := Aside0.mk (hb)
           have HO356 := Aside0.mk (ho)
           clear HO_329005 HO349 HO353
           clear ho hb hg hat
           obtain ⟨Ao83, co83, eo83⟩ := Kd.S_slice HO356.out
           (first | subst eo83 | (injection eo83 with f1_ f2_ f3_; have f4_ := f1_.symm; have f5_ := f3_.symm; clear f1_ f2_ f3_; subst f4_; subst f5_))
           refine hK.out _ _ ⟨(blk_cell BK328.out 0).trans rfl, (blk_cell BK328.out 1).trans rfl, (blk_cell BK328.out 2).trans rfl, (blk_cell BK328.out 3).trans rfl, (blk_cell BK328.out 4).trans rfl, (blk_cell BK328.out 5).trans rfl, (blk_cell BK330.out 0).trans rfl, (blk_cell BK330.out 1).trans rfl, (blk_cell BK330.out 2).trans rfl, (blk_cell BK330.out 3).trans rfl, (blk_cell BK330.out 4).trans rfl, (blk_cell BK330.out 5).trans rfl⟩ (fun hHeld => ?_)
           clear hK K
           refine norm_ (a' := ?_) ?_ ?_
           rotate_left
           ·show Act.put _ (some 49) _ = _
            simp only [Act.put, List.setIfInBounds_toArray, List.set_cons_zero, List.set_cons_succ, i64_w, i32_w]
            rfl
           refine pure_ (i := 6) (N := some 50) (v := ?_) (a' := ?_) #[true, true, true, true, true, true, true, false] rfl rfl (any_of HT_.out (by kernel_rfl)) (fun _ _ _ h => h) (Or.inl ⟨by rfl, ?_⟩) ?_ ?_
           rotate_left
           ·intro w'
            go_simp
            with_reducible rfl
           rotate_left
           ·simp only [Act.put, List.setIfInBounds_toArray, List.set_cons_zero, List.set_cons_succ, i64_w, i32_w]
            rfl
           refine last_ (i := 7) (N := none) #[true, true, true, true, true, true, true, true] rfl rfl (one_of HT_.out (by kernel_rfl)) (by decide) (fun K hK => ?_)
           have hs84 : w80.cell? ⟨gb328, 5, none⟩ = some (u329005) := (blk_cell BK328.out 5).trans rfl
           have hfs84 := blk_frozen BK328.out 5
           have hns84_0 := NB323_328.out
           have hns84_1 := NB324_328.out
           have hns84_2 := NB325_328.out
           have hns84_3 := NB327_328.out
           have hns84_5 := NB330_328.out
           have hms84_0 := NB328_323.out
           have hms84_1 := NB328_324.out
           have hms84_2 := NB328_325.out
           have hms84_3 := NB328_327.out
           have hms84_5 := NB328_330.out
           refine skip_ (w1 := ?_) (by rfl) rfl ?_ ?_
           rotate_left
           ·go_simp
            rfl
           refine hK.out _ _ ?_
           clear hK K
           refine done_ (done_of HT_.out (by kernel_rfl)) ?_
           try go_wp2
           go_roundg k2
           case measure => have := HJ2.out; have := HK2.out; omega
           case rel => exact ⟨(wrap64 (x29_2 + 1)), (x328005_2), (y354), (u328005), (.slice Ao83 y354.length co83), tr, H', ⟨by have := HJ2.out; have := HK2.out; omega⟩, ⟨tSm (Kd.S_types HO_328005.out BK328.out (by decide))⟩, ⟨tSm (Kd.S_types HO356.out BK328.out (by decide))⟩, ⟨tH BK323.out⟩, ⟨tH BK324.out⟩, ⟨tH BK325.out⟩, ⟨tH BK327.out⟩, ⟨tP BK328.out⟩, ⟨zb⟩⟩
          ·rw [if_neg c69] at H
           exact absurd H (by simp)
        ·rw [if_neg c49] at H
         exact absurd H (by simp)
       ·rw [if_neg c48] at H
        exact absurd H (by simp)
      ·rw [if_neg c47] at H
       have c47b0 : decide (x29_2 < (l0_5.length : Int)) = false := decide_eq_false c47
       clear c47
       by_cases c85 : (x328005_2.length : Int) = 0
       ·rw [if_pos c85] at H
        have c85b0 : ((x328005_2.length : Int) == 0) = true := beq_iff_eq.mpr c85
        have c85b1 : ((x328005_2.length : Int) != 0) = false := bne_eq_false_iff_eq.mpr c85
        clear c85
        simp only [Option.some.injEq, Prod.mk.injEq] at H
        obtain ⟨rfl, rfl, rfl, rfl, rfl, rfl, rfl, rfl, rfl, rfl, rfl, rfl, rfl⟩ := H
        have hnb86 := NB327_323.out
        have hnc86 := NB323_327.out
        have hnb87 := NB327_324.out
        have hnc87 := NB324_327.out
        have hnb88 := NB327_325.out
        have hnc88 := NB325_327.out
        have hnb89 := NB327_328.out
        have hnc89 := NB328_327.out
        obtain ⟨hcz90_0, hcz90_1, hcz90_2, hcz90_3, hcz90_4, hcz90_5, hfz90_0, hfz90_1, hfz90_2, hfz90_3, hfz90_4, hfz90_5⟩ := cells6 BK327.out
        obtain ⟨Ao91, co91, eo91⟩ := Kd.S_slice HO_328005.out
        subst eo91
        try go_wp2
        replace HO_328005 := Aside0.mk (Kd.S_drew HO_328005.out)
        replace HO_329005 := Aside0.mk (Kd.S_drew HO_329005.out)
        replace BK323 := Aside0.mk (blk_drew BK323.out)
        replace BK324 := Aside0.mk (blk_drew BK324.out)
        replace BK325 := Aside0.mk (blk_drew BK325.out)
        replace BK327 := Aside0.mk (blk_drew BK327.out)
        replace BK328 := Aside0.mk (blk_drew BK328.out)
        replace HB := Aside0.mk (below_drew1 HB.out)
        refine start_ (n := 6) (S := ErrOk [1]) (ds := []) #[false, false, false, false, false, false] (by kernel_rfl) rfl rfl (ErrOk.below HE.out HB.out) (fun hHeld => ?_)
        generalize wr.drew = w92 at HO_328005 HO_329005 BK323 BK324 BK325 BK327 BK328 HB hHeld ⊢
        refine pure_ (i := 0) (N := some 62) (v := ?_) (a' := ?_) #[true, false, false, false, false, false] rfl rfl (by kernel_rfl) (fun _ _ _ h => h) (Or.inl ⟨by rfl, ?_⟩) ?_ ?_
        rotate_left
        ·intro w'
         go_simp
         with_reducible rfl
        rotate_left
        ·simp only [Act.put, List.setIfInBounds_toArray, List.set_cons_zero, List.set_cons_succ, i64_w, i32_w]
         rfl
        refine pure_ (i := 1) (N := some 63) (v := ?_) (a' := ?_) #[true, true, false, false, false, false] rfl rfl (by kernel_rfl) (fun _ _ _ h => h) (Or.inl ⟨by rfl, ?_⟩) ?_ ?_
        rotate_left
        ·intro w'
         go_simp
         with_reducible rfl
        rotate_left
        ·simp only [Act.put, List.setIfInBounds_toArray, List.set_cons_zero, List.set_cons_succ, i64_w, i32_w]
         rfl
        refine take_ (i := 2) (N := some 64) (v := ?_) (a' := ?_) #[true, true, true, false, false, false] rfl rfl (by kernel_rfl) (fun _ _ _ h => h) (Or.inl ⟨by rfl, ?_⟩) hHeld ?_ ?_
        rotate_left
        ·intro w' hS_
         try have hg0_ := ErrOk.g0 hS_ (by decide)
         try have hg1_ := ErrOk.g1 hS_ (by decide)
         clear hS_
         go_simp
         with_reducible rfl
        rotate_left
        ·simp only [Act.put, List.setIfInBounds_toArray, List.set_cons_zero, List.set_cons_succ, i64_w, i32_w]
         rfl
        refine one_ (i := 3) (N := none) #[true, true, true, true, false, false] rfl rfl (by kernel_rfl) (by decide) (fun K hK => ?_)
        have hs93 : w92.cell? ⟨gb324, 0, none⟩ = some (.bool false) := (blk_cell BK324.out 0).trans rfl
        have hfs93 := blk_frozen BK324.out 0
        have hns93_0 := NB323_324.out
        have hns93_2 := NB325_324.out
        have hns93_3 := NB327_324.out
        have hns93_4 := NB328_324.out
        have hms93_0 := NB324_323.out
        have hms93_2 := NB324_325.out
        have hms93_3 := NB324_327.out
        have hms93_4 := NB324_328.out
        have hs94 : w92.cell? ⟨gb324, 1, none⟩ = some (.bool false) := (blk_cell BK324.out 1).trans rfl
        have hfs94 := blk_frozen BK324.out 1
        have hns94_0 := NB323_324.out
        have hns94_2 := NB325_324.out
        have hns94_3 := NB327_324.out
        have hns94_4 := NB328_324.out
        have hms94_0 := NB324_323.out
        have hms94_2 := NB324_325.out
        have hms94_3 := NB324_327.out
        have hms94_4 := NB324_328.out
        have hs95 : w92.cell? ⟨gb324, 2, none⟩ = some (.int .i64 0) := (blk_cell BK324.out 2).trans rfl
        have hfs95 := blk_frozen BK324.out 2
        have hns95_0 := NB323_324.out
        have hns95_2 := NB325_324.out
        have hns95_3 := NB327_324.out
        have hns95_4 := NB328_324.out
        have hms95_0 := NB324_323.out
        have hms95_2 := NB324_325.out
        have hms95_3 := NB324_327.out
        have hms95_4 := NB324_328.out
        have hs96 : w92.cell? ⟨gb324, 3, none⟩ = some (.int .i64 0) := (blk_cell BK324.out 3).trans rfl
        have hfs96 := blk_frozen BK324.out 3
        have hns96_0 := NB323_324.out
        have hns96_2 := NB325_324.out
        have hns96_3 := NB327_324.out
        have hns96_4 := NB328_324.out
        have hms96_0 := NB324_323.out
        have hms96_2 := NB324_325.out
        have hms96_3 := NB324_327.out
        have hms96_4 := NB324_328.out
        have hs97 : w92.cell? ⟨gb324, 4, none⟩ = some (.int .i64 0) := (blk_cell BK324.out 4).trans rfl
        have hfs97 := blk_frozen BK324.out 4
        have hns97_0 := NB323_324.out
        have hns97_2 := NB325_324.out
        have hns97_3 := NB327_324.out
        have hns97_4 := NB328_324.out
        have hms97_0 := NB324_323.out
        have hms97_2 := NB324_325.out
        have hms97_3 := NB324_327.out
        have hms97_4 := NB324_328.out
        have hs98 : w92.cell? ⟨gb324, 5, none⟩ = some (.slice none 0 0) := (blk_cell BK324.out 5).trans rfl
        have hfs98 := blk_frozen BK324.out 5
        have hns98_0 := NB323_324.out
        have hns98_2 := NB325_324.out
        have hns98_3 := NB327_324.out
        have hns98_4 := NB328_324.out
        have hms98_0 := NB324_323.out
        have hms98_2 := NB324_325.out
        have hms98_3 := NB324_327.out
        have hms98_4 := NB324_328.out
        refine skip_ (w1 := ?_) (by rfl) rfl ?_ ?_
        rotate_left
        ·go_simp
         rfl
        refine hK.out _ _ (by repeat (first | (with_reducible exact hHeld) | (with_reducible refine ErrOk.set HE.out ?_ (by with_reducible first | exact GE323.out | exact GE324.out | exact GE325.out | exact GE327.out | exact GE328.out | exact GE330.out) _ _))) (fun hHeld => ?_)
        clear hK K
        refine one_ (i := 4) (N := none) #[true, true, true, true, true, false] rfl rfl (by kernel_rfl) (by decide) (fun K hK => ?_)
        have hs99 : w92.cell? ⟨gb325, 0, none⟩ = some (.bool false) := (blk_cell BK325.out 0).trans rfl
        have hfs99 := blk_frozen BK325.out 0
        have hns99_0 := NB323_325.out
        have hns99_1 := NB324_325.out
        have hns99_3 := NB327_325.out
        have hns99_4 := NB328_325.out
        have hms99_0 := NB325_323.out
        have hms99_1 := NB325_324.out
        have hms99_3 := NB325_327.out
        have hms99_4 := NB325_328.out
        have hs100 : w92.cell? ⟨gb325, 1, none⟩ = some (.bool false) := (blk_cell BK325.out 1).trans rfl
        have hfs100 := blk_frozen BK325.out 1
        have hns100_0 := NB323_325.out
        have hns100_1 := NB324_325.out
        have hns100_3 := NB327_325.out
        have hns100_4 := NB328_325.out
        have hms100_0 := NB325_323.out
        have hms100_1 := NB325_324.out
        have hms100_3 := NB325_327.out
        have hms100_4 := NB325_328.out
        have hs101 : w92.cell? ⟨gb325, 2, none⟩ = some (.int .i64 0) := (blk_cell BK325.out 2).trans rfl
        have hfs101 := blk_frozen BK325.out 2
        have hns101_0 := NB323_325.out
        have hns101_1 := NB324_325.out
        have hns101_3 := NB327_325.out
        have hns101_4 := NB328_325.out
        have hms101_0 := NB325_323.out
        have hms101_1 := NB325_324.out
        have hms101_3 := NB325_327.out
        have hms101_4 := NB325_328.out
        have hs102 : w92.cell? ⟨gb325, 3, none⟩ = some (.int .i64 0) := (blk_cell BK325.out 3).trans rfl
        have hfs102 := blk_frozen BK325.out 3
        have hns102_0 := NB323_325.out
        have hns102_1 := NB324_325.out
        have hns102_3 := NB327_325.out
        have hns102_4 := NB328_325.out
        have hms102_0 := NB325_323.out
        have hms102_1 := NB325_324.out
        have hms102_3 := NB325_327.out
        have hms102_4 := NB325_328.out
        have hs103 : w92.cell? ⟨gb325, 4, none⟩ = some (.int .i64 0) := (blk_cell BK325.out 4).trans rfl
        have hfs103 := blk_frozen BK325.out 4
        have hns103_0 := NB323_325.out
        have hns103_1 := NB324_325.out
        have hns103_3 := NB327_325.out
        have hns103_4 := NB328_325.out
        have hms103_0 := NB325_323.out
        have hms103_1 := NB325_324.out
        have hms103_3 := NB325_327.out
        have hms103_4 := NB325_328.out
        have hs104 : w92.cell? ⟨gb325, 5, none⟩ = some (.slice none 0 0) := (blk_cell BK325.out 5).trans rfl
        have hfs104 := blk_frozen BK325.out 5
        have hns104_0 := NB323_325.out
        have hns104_1 := NB324_325.out
        have hns104_3 := NB327_325.out
        have hns104_4 := NB328_325.out
        have hms104_0 := NB325_323.out
        have hms104_1 := NB325_324.out
        have hms104_3 := NB325_327.out
        have hms104_4 := NB325_328.out
        refine skip_ (w1 := ?_) (by rfl) rfl ?_ ?_
        rotate_left
        ·go_simp
         rfl
        refine hK.out _ _ (by repeat (first | (with_reducible exact hHeld) | (with_reducible refine ErrOk.set HE.out ?_ (by with_reducible first | exact GE323.out | exact GE324.out | exact GE325.out | exact GE327.out | exact GE328.out | exact GE330.out) _ _))) (fun hHeld => ?_)
        clear hK K
        refine pure_ (i := 5) (N := some 6) (v := ?_) (a' := ?_) #[true, true, true, true, true, true] rfl rfl (by kernel_rfl) (fun _ _ _ h => h) (Or.inl ⟨by rfl, ?_⟩) ?_ ?_
        rotate_left
        ·intro w'
         go_simp
         with_reducible rfl
        rotate_left
        ·simp only [Act.put, List.setIfInBounds_toArray, List.set_cons_zero, List.set_cons_succ, i64_w, i32_w]
         rfl
        refine done_ (by kernel_rfl) ?_
        try go_wp2
        refine bodyPost_ret (results_list (rs := [.cell 4 47, .cell 5 47, .tmp 6]) rfl (by simp) (.cell gb324 47 #[.bool false, .bool false, .int .i64 0, .int .i64 0, .int .i64 0, .slice none 0 0] (0, 0) _ rfl (tP BK324.out) Tryd.underlying47 rfl (by kernel_rfl) (.cell gb325 47 #[.bool false, .bool false, .int .i64 0, .int .i64 0, .int .i64 0, .slice none 0 0] (0, 0) _ rfl (tP BK325.out) Tryd.underlying47 rfl (by kernel_rfl) (.tmp .nil)))) rfl ?_
        exact ⟨_, _, by first | rfl | (simp [errW_none, errW_some] <;> rfl) | (simp [*, errW_none, errW_some] <;> rfl), by first | exact Kd.S_nil _ _ _ _ _ | exact Kd.N_nil _ _ _ _ _ | exact Kd.V_nil _ _ _ _ _ | exact Kd.Q_nil _ _ _ _ _ | exact Kd.R_nil _ _ _ _ _, by first | exact Kd.S_nil _ _ _ _ _ | exact Kd.N_nil _ _ _ _ _ | exact Kd.V_nil _ _ _ _ _ | exact Kd.Q_nil _ _ _ _ _ | exact Kd.R_nil _ _ _ _ _, zb⟩
       ·rw [if_neg c85] at H
        have c85b0 : ((x328005_2.length : Int) == 0) = false := beq_eq_false_iff_ne.mpr c85
        have c85b1 : ((x328005_2.length : Int) != 0) = true := bne_iff_ne.mpr c85
        have c85b2 : ¬ (x328005_2 = []) := fun h_ => c85 (by rw [h_]; rfl)
        by_cases c105 : (x329005_2.length : Int) = 0
        ·rw [if_pos c105] at H
         have c105b0 : ((x329005_2.length : Int) == 0) = true := beq_iff_eq.mpr c105
         have c105b1 : ((x329005_2.length : Int) != 0) = false := bne_eq_false_iff_eq.mpr c105
         clear c105
         simp only [Option.some.injEq, Prod.mk.injEq] at H
         obtain ⟨rfl, rfl, rfl, rfl, rfl, rfl, rfl, rfl, rfl, rfl, rfl, rfl, rfl⟩ := H
         have hnb106 := NB327_323.out
         have hnc106 := NB323_327.out
         have hnb107 := NB327_324.out
         have hnc107 := NB324_327.out
         have hnb108 := NB327_325.out
         have hnc108 := NB325_327.out
         have hnb109 := NB327_328.out
         have hnc109 := NB328_327.out
         obtain ⟨hcz110_0, hcz110_1, hcz110_2, hcz110_3, hcz110_4, hcz110_5, hfz110_0, hfz110_1, hfz110_2, hfz110_3, hfz110_4, hfz110_5⟩ := cells6 BK327.out
         obtain ⟨Ao111, co111, eo111⟩ := Kd.S_slice HO_328005.out
         subst eo111
         have hnb112 := NB328_323.out
         have hnc112 := NB323_328.out
         have hnb113 := NB328_324.out
         have hnc113 := NB324_328.out
         have hnb114 := NB328_325.out
         have hnc114 := NB325_328.out
         obtain ⟨hcz115_0, hcz115_1, hcz115_2, hcz115_3, hcz115_4, hcz115_5, hfz115_0, hfz115_1, hfz115_2, hfz115_3, hfz115_4, hfz115_5⟩ := cells6 BK328.out
         obtain ⟨Ao116, co116, eo116⟩ := Kd.S_slice HO_329005.out
         subst eo116
         try go_wp2
         replace HO_328005 := Aside0.mk (Kd.S_drew HO_328005.out)
         replace HO_329005 := Aside0.mk (Kd.S_drew HO_329005.out)
         replace BK323 := Aside0.mk (blk_drew BK323.out)
         replace BK324 := Aside0.mk (blk_drew BK324.out)
         replace BK325 := Aside0.mk (blk_drew BK325.out)
         replace BK327 := Aside0.mk (blk_drew BK327.out)
         replace BK328 := Aside0.mk (blk_drew BK328.out)
         replace HB := Aside0.mk (below_drew1 HB.out)
         refine start_ (n := 6) (S := ErrOk [1]) (ds := []) #[false, false, false, false, false, false] (by kernel_rfl) rfl rfl (ErrOk.below HE.out HB.out) (fun hHeld => ?_)
         generalize wr.drew = w117 at HO_328005 HO_329005 BK323 BK324 BK325 BK327 BK328 HB hHeld ⊢
         refine pure_ (i := 0) (N := some 62) (v := ?_) (a' := ?_) #[true, false, false, false, false, false] rfl rfl (by kernel_rfl) (fun _ _ _ h => h) (Or.inl ⟨by rfl, ?_⟩) ?_ ?_
         rotate_left
         ·intro w'
          go_simp
          with_reducible rfl
         rotate_left
         ·simp only [Act.put, List.setIfInBounds_toArray, List.set_cons_zero, List.set_cons_succ, i64_w, i32_w]
          rfl
         refine pure_ (i := 1) (N := some 63) (v := ?_) (a' := ?_) #[true, true, false, false, false, false] rfl rfl (by kernel_rfl) (fun _ _ _ h => h) (Or.inl ⟨by rfl, ?_⟩) ?_ ?_
         rotate_left
         ·intro w'
          go_simp
          with_reducible rfl
         rotate_left
         ·simp only [Act.put, List.setIfInBounds_toArray, List.set_cons_zero, List.set_cons_succ, i64_w, i32_w]
          rfl
         refine take_ (i := 2) (N := some 64) (v := ?_) (a' := ?_) #[true, true, true, false, false, false] rfl rfl (by kernel_rfl) (fun _ _ _ h => h) (Or.inl ⟨by rfl, ?_⟩) hHeld ?_ ?_
         rotate_left
         ·intro w' hS_
          try have hg0_ := ErrOk.g0 hS_ (by decide)
          try have hg1_ := ErrOk.g1 hS_ (by decide)
          clear hS_
          go_simp
          with_reducible rfl
         rotate_left
         ·simp only [Act.put, List.setIfInBounds_toArray, List.set_cons_zero, List.set_cons_succ, i64_w, i32_w]
          rfl
         refine one_ (i := 3) (N := none) #[true, true, true, true, false, false] rfl rfl (by kernel_rfl) (by decide) (fun K hK => ?_)
         have hs118 : w117.cell? ⟨gb324, 0, none⟩ = some (.bool false) := (blk_cell BK324.out 0).trans rfl
         have hfs118 := blk_frozen BK324.out 0
         have hns118_0 := NB323_324.out
         have hns118_2 := NB325_324.out
         have hns118_3 := NB327_324.out
         have hns118_4 := NB328_324.out
         have hms118_0 := NB324_323.out
         have hms118_2 := NB324_325.out
         have hms118_3 := NB324_327.out
         have hms118_4 := NB324_328.out
         have hs119 : w117.cell? ⟨gb324, 1, none⟩ = some (.bool false) := (blk_cell BK324.out 1).trans rfl
         have hfs119 := blk_frozen BK324.out 1
         have hns119_0 := NB323_324.out
         have hns119_2 := NB325_324.out
         have hns119_3 := NB327_324.out
         have hns119_4 := NB328_324.out
         have hms119_0 := NB324_323.out
         have hms119_2 := NB324_325.out
         have hms119_3 := NB324_327.out
         have hms119_4 := NB324_328.out
         have hs120 : w117.cell? ⟨gb324, 2, none⟩ = some (.int .i64 0) := (blk_cell BK324.out 2).trans rfl
         have hfs120 := blk_frozen BK324.out 2
         have hns120_0 := NB323_324.out
         have hns120_2 := NB325_324.out
         have hns120_3 := NB327_324.out
         have hns120_4 := NB328_324.out
         have hms120_0 := NB324_323.out
         have hms120_2 := NB324_325.out
         have hms120_3 := NB324_327.out
         have hms120_4 := NB324_328.out
         have hs121 : w117.cell? ⟨gb324, 3, none⟩ = some (.int .i64 0) := (blk_cell BK324.out 3).trans rfl
         have hfs121 := blk_frozen BK324.out 3
         have hns121_0 := NB323_324.out
         have hns121_2 := NB325_324.out
         have hns121_3 := NB327_324.out
         have hns121_4 := NB328_324.out
         have hms121_0 := NB324_323.out
         have hms121_2 := NB324_325.out
         have hms121_3 := NB324_327.out
         have hms121_4 := NB324_328.out
         have hs122 : w117.cell? ⟨gb324, 4, none⟩ = some (.int .i64 0) := (blk_cell BK324.out 4).trans rfl
         have hfs122 := blk_frozen BK324.out 4
         have hns122_0 := NB323_324.out
         have hns122_2 := NB325_324.out
         have hns122_3 := NB327_324.out
         have hns122_4 := NB328_324.out
         have hms122_0 := NB324_323.out
         have hms122_2 := NB324_325.out
         have hms122_3 := NB324_327.out
         have hms122_4 := NB324_328.out
         have hs123 : w117.cell? ⟨gb324, 5, none⟩ = some (.slice none 0 0) := (blk_cell BK324.out 5).trans rfl
         have hfs123 := blk_frozen BK324.out 5
         have hns123_0 := NB323_324.out
         have hns123_2 := NB325_324.out
         have hns123_3 := NB327_324.out
         have hns123_4 := NB328_324.out
         have hms123_0 := NB324_323.out
         have hms123_2 := NB324_325.out
         have hms123_3 := NB324_327.out
         have hms123_4 := NB324_328.out
         refine skip_ (w1 := ?_) (by rfl) rfl ?_ ?_
         rotate_left
         ·go_simp
          rfl
         refine hK.out _ _ (by repeat (first | (with_reducible exact hHeld) | (with_reducible refine ErrOk.set HE.out ?_ (by with_reducible first | exact GE323.out | exact GE324.out | exact GE325.out | exact GE327.out | exact GE328.out | exact GE330.out) _ _))) (fun hHeld => ?_)
         clear hK K
         refine one_ (i := 4) (N := none) #[true, true, true, true, true, false] rfl rfl (by kernel_rfl) (by decide) (fun K hK => ?_)
         have hs124 : w117.cell? ⟨gb325, 0, none⟩ = some (.bool false) := (blk_cell BK325.out 0).trans rfl
         have hfs124 := blk_frozen BK325.out 0
         have hns124_0 := NB323_325.out
         have hns124_1 := NB324_325.out
         have hns124_3 := NB327_325.out
         have hns124_4 := NB328_325.out
         have hms124_0 := NB325_323.out
         have hms124_1 := NB325_324.out
         have hms124_3 := NB325_327.out
         have hms124_4 := NB325_328.out
         have hs125 : w117.cell? ⟨gb325, 1, none⟩ = some (.bool false) := (blk_cell BK325.out 1).trans rfl
         have hfs125 := blk_frozen BK325.out 1
         have hns125_0 := NB323_325.out
         have hns125_1 := NB324_325.out
         have hns125_3 := NB327_325.out
         have hns125_4 := NB328_325.out
         have hms125_0 := NB325_323.out
         have hms125_1 := NB325_324.out
         have hms125_3 := NB325_327.out
         have hms125_4 := NB325_328.out
         have hs126 : w117.cell? ⟨gb325, 2, none⟩ = some (.int .i64 0) := (blk_cell BK325.out 2).trans rfl
         have hfs126 := blk_frozen BK325.out 2
         have hns126_0 := NB323_325.out
         have hns126_1 := NB324_325.out
         have hns126_3 := NB327_325.out
         have hns126_4 := NB328_325.out
         have hms126_0 := NB325_323.out
         have hms126_1 := NB325_324.out
         have hms126_3 := NB325_327.out
         have hms126_4 := NB325_328.out
         have hs127 : w117.cell? ⟨gb325, 3, none⟩ = some (.int .i64 0) := (blk_cell BK325.out 3).trans rfl
         have hfs127 := blk_frozen BK325.out 3
         have hns127_0 := NB323_325.out
         have hns127_1 := NB324_325.out
         have hns127_3 := NB327_325.out
         have hns127_4 := NB328_325.out
         have hms127_0 := NB325_323.out
         have hms127_1 := NB325_324.out
         have hms127_3 := NB325_327.out
         have hms127_4 := NB325_328.out
         have hs128 : w117.cell? ⟨gb325, 4, none⟩ = some (.int .i64 0) := (blk_cell BK325.out 4).trans rfl
         have hfs128 := blk_frozen BK325.out 4
         have hns128_0 := NB323_325.out
         have hns128_1 := NB324_325.out
         have hns128_3 := NB327_325.out
         have hns128_4 := NB328_325.out
         have hms128_0 := NB325_323.out
         have hms128_1 := NB325_324.out
         have hms128_3 := NB325_327.out
         have hms128_4 := NB325_328.out
         have hs129 : w117.cell? ⟨gb325, 5, none⟩ = some (.slice none 0 0) := (blk_cell BK325.out 5).trans rfl
         have hfs129 := blk_frozen BK325.out 5
         have hns129_0 := NB323_325.out
         have hns129_1 := NB324_325.out
         have hns129_3 := NB327_325.out
         have hns129_4 := NB328_325.out
         have hms129_0 := NB325_323.out
         have hms129_1 := NB325_324.out
         have hms129_3 := NB325_327.out
         have hms129_4 := NB325_328.out
         refine skip_ (w1 := ?_) (by rfl) rfl ?_ ?_
         rotate_left
         ·go_simp
          rfl
         refine hK.out _ _ (by repeat (first | (with_reducible exact hHeld) | (with_reducible refine ErrOk.set HE.out ?_ (by with_reducible first | exact GE323.out | exact GE324.out | exact GE325.out | exact GE327.out | exact GE328.out | exact GE330.out) _ _))) (fun hHeld => ?_)
         clear hK K
         refine pure_ (i := 5) (N := some 6) (v := ?_) (a' := ?_) #[true, true, true, true, true, true] rfl rfl (by kernel_rfl) (fun _ _ _ h => h) (Or.inl ⟨by rfl, ?_⟩) ?_ ?_
         rotate_left
         ·intro w'
          go_simp
          with_reducible rfl
         rotate_left
         ·simp only [Act.put, List.setIfInBounds_toArray, List.set_cons_zero, List.set_cons_succ, i64_w, i32_w]
          rfl
         refine done_ (by kernel_rfl) ?_
         try go_wp2
         refine bodyPost_ret (results_list (rs := [.cell 4 47, .cell 5 47, .tmp 6]) rfl (by simp) (.cell gb324 47 #[.bool false, .bool false, .int .i64 0, .int .i64 0, .int .i64 0, .slice none 0 0] (0, 0) _ rfl (tP BK324.out) Tryd.underlying47 rfl (by kernel_rfl) (.cell gb325 47 #[.bool false, .bool false, .int .i64 0, .int .i64 0, .int .i64 0, .slice none 0 0] (0, 0) _ rfl (tP BK325.out) Tryd.underlying47 rfl (by kernel_rfl) (.tmp .nil)))) rfl ?_
         exact ⟨_, _, by first | rfl | (simp [errW_none, errW_some] <;> rfl) | (simp [*, errW_none, errW_some] <;> rfl), by first | exact Kd.S_nil _ _ _ _ _ | exact Kd.N_nil _ _ _ _ _ | exact Kd.V_nil _ _ _ _ _ | exact Kd.Q_nil _ _ _ _ _ | exact Kd.R_nil _ _ _ _ _, by first | exact Kd.S_nil _ _ _ _ _ | exact Kd.N_nil _ _ _ _ _ | exact Kd.V_nil _ _ _ _ _ | exact Kd.Q_nil _ _ _ _ _ | exact Kd.R_nil _ _ _ _ _, zb⟩
        ·rw [if_neg c105] at H
         have c105b0 : ((x329005_2.length : Int) == 0) = false := beq_eq_false_iff_ne.mpr c105
         have c105b1 : ((x329005_2.length : Int) != 0) = true := bne_iff_ne.mpr c105
         have c105b2 : ¬ (x329005_2 = []) := fun h_ => c105 (by rw [h_]; rfl)
         simp only [Option.some.injEq, Prod.mk.injEq] at H
         obtain ⟨rfl, rfl, rfl, rfl, rfl, rfl, rfl, rfl, rfl, rfl, rfl, rfl, rfl⟩ := H
         have hnb130 := NB327_323.out
         have hnc130 := NB323_327.out
         have hnb131 := NB327_324.out
         have hnc131 := NB324_327.out
         have hnb132 := NB327_325.out
         have hnc132 := NB325_327.out
         have hnb133 := NB327_328.out
         have hnc133 := NB328_327.out
         obtain ⟨hcz134_0, hcz134_1, hcz134_2, hcz134_3, hcz134_4, hcz134_5, hfz134_0, hfz134_1, hfz134_2, hfz134_3, hfz134_4, hfz134_5⟩ := cells6 BK327.out
         obtain ⟨Ao135, co135, eo135⟩ := Kd.S_slice HO_328005.out
         subst eo135
         have hnb136 := NB328_323.out
         have hnc136 := NB323_328.out
         have hnb137 := NB328_324.out
         have hnc137 := NB324_328.out
         have hnb138 := NB328_325.out
         have hnc138 := NB325_328.out
         obtain ⟨hcz139_0, hcz139_1, hcz139_2, hcz139_3, hcz139_4, hcz139_5, hfz139_0, hfz139_1, hfz139_2, hfz139_3, hfz139_4, hfz139_5⟩ := cells6 BK328.out
         obtain ⟨Ao140, co140, eo140⟩ := Kd.S_slice HO_329005.out
         subst eo140
         try go_wp2
         replace HO_328005 := Aside0.mk (Kd.S_drew HO_328005.out)
         replace HO_329005 := Aside0.mk (Kd.S_drew HO_329005.out)
         replace BK323 := Aside0.mk (blk_drew BK323.out)
         replace BK324 := Aside0.mk (blk_drew BK324.out)
         replace BK325 := Aside0.mk (blk_drew BK325.out)
         replace BK327 := Aside0.mk (blk_drew BK327.out)
         replace BK328 := Aside0.mk (blk_drew BK328.out)
         replace HB := Aside0.mk (below_drew1 HB.out)
         refine start_ (n := 5) (S := fun w' => w'.cell? ⟨gb327, 0, none⟩ = some (.bool a0_0) ∧ w'.cell? ⟨gb327, 1, none⟩ = some (.bool false) ∧ w'.cell? ⟨gb327, 2, none⟩ = some (.int .i64 255) ∧ w'.cell? ⟨gb327, 3, none⟩ = some (.int .i64 0) ∧ w'.cell? ⟨gb327, 4, none⟩ = some (.int .i64 0) ∧ w'.cell? ⟨gb327, 5, none⟩ = some (.slice Ao135 x328005_2.length co135) ∧ w'.cell? ⟨gb328, 0, none⟩ = some (.bool a0_0) ∧ w'.cell? ⟨gb328, 1, none⟩ = some (.bool false) ∧ w'.cell? ⟨gb328, 2, none⟩ = some (.int .i64 255) ∧ w'.cell? ⟨gb328, 3, none⟩ = some (.int .i64 0) ∧ w'.cell? ⟨gb328, 4, none⟩ = some (.int .i64 0) ∧ w'.cell? ⟨gb328, 5, none⟩ = some (.slice Ao140 x329005_2.length co140)) (ds := []) #[false, false, false, false, false] (by kernel_rfl) rfl rfl ⟨(blk_cell BK327.out 0).trans rfl, (blk_cell BK327.out 1).trans rfl, (blk_cell BK327.out 2).trans rfl, (blk_cell BK327.out 3).trans rfl, (blk_cell BK327.out 4).trans rfl, (blk_cell BK327.out 5).trans rfl, (blk_cell BK328.out 0).trans rfl, (blk_cell BK328.out 1).trans rfl, (blk_cell BK328.out 2).trans rfl, (blk_cell BK328.out 3).trans rfl, (blk_cell BK328.out 4).trans rfl, (blk_cell BK328.out 5).trans rfl⟩ (fun hHeld => ?_)
         generalize wr.drew = w141 at HO_328005 HO_329005 BK323 BK324 BK325 BK327 BK328 HB hHeld ⊢
         refine take_ (i := 0) (N := some 65) (v := ?_) (a' := ?_) #[true, false, false, false, false] rfl rfl (by kernel_rfl) (fun _ _ _ h => h) (Or.inl ⟨by rfl, ?_⟩) hHeld ?_ ?_
         rotate_left
         ·rintro w' ⟨s0, s1, s2, s3, s4, s5, s6, s7, s8, s9, s10, s11⟩
          go_simp
          with_reducible rfl
         rotate_left
         ·simp only [Act.put, List.setIfInBounds_toArray, List.set_cons_zero, List.set_cons_succ, i64_w, i32_w]
          rfl
         refine take_ (i := 1) (N := some 66) (v := ?_) (a' := ?_) #[true, true, false, false, false] rfl rfl (by kernel_rfl) (fun _ _ _ h => h) (Or.inl ⟨by rfl, ?_⟩) hHeld ?_ ?_
         rotate_left
         ·rintro w' ⟨s0, s1, s2, s3, s4, s5, s6, s7, s8, s9, s10, s11⟩
          go_simp
          with_reducible rfl
         rotate_left
         ·simp only [Act.put, List.setIfInBounds_toArray, List.set_cons_zero, List.set_cons_succ, i64_w, i32_w]
          rfl
         refine one_ (i := 2) (N := none) #[true, true, true, false, false] rfl rfl (by kernel_rfl) (by decide) (fun K hK => ?_)
         have hs142 : w141.cell? ⟨gb324, 0, none⟩ = some (.bool false) := (blk_cell BK324.out 0).trans rfl
         have hfs142 := blk_frozen BK324.out 0
         have hns142_0 := NB323_324.out
         have hns142_2 := NB325_324.out
         have hns142_3 := NB327_324.out
         have hns142_4 := NB328_324.out
         have hms142_0 := NB324_323.out
         have hms142_2 := NB324_325.out
         have hms142_3 := NB324_327.out
         have hms142_4 := NB324_328.out
         have hs143 : w141.cell? ⟨gb324, 1, none⟩ = some (.bool false) := (blk_cell BK324.out 1).trans rfl
         have hfs143 := blk_frozen BK324.out 1
         have hns143_0 := NB323_324.out
         have hns143_2 := NB325_324.out
         have hns143_3 := NB327_324.out
         have hns143_4 := NB328_324.out
         have hms143_0 := NB324_323.out
         have hms143_2 := NB324_325.out
         have hms143_3 := NB324_327.out
         have hms143_4 := NB324_328.out
         have hs144 : w141.cell? ⟨gb324, 2, none⟩ = some (.int .i64 0) := (blk_cell BK324.out 2).trans rfl
         have hfs144 := blk_frozen BK324.out 2
         have hns144_0 := NB323_324.out
         have hns144_2 := NB325_324.out
         have hns144_3 := NB327_324.out
         have hns144_4 := NB328_324.out
         have hms144_0 := NB324_323.out
         have hms144_2 := NB324_325.out
         have hms144_3 := NB324_327.out
         have hms144_4 := NB324_328.out
         have hs145 : w141.cell? ⟨gb324, 3, none⟩ = some (.int .i64 0) := (blk_cell BK324.out 3).trans rfl
         have hfs145 := blk_frozen BK324.out 3
         have hns145_0 := NB323_324.out
         have hns145_2 := NB325_324.out
         have hns145_3 := NB327_324.out
         have hns145_4 := NB328_324.out
         have hms145_0 := NB324_323.out
         have hms145_2 := NB324_325.out
         have hms145_3 := NB324_327.out
         have hms145_4 := NB324_328.out
         have hs146 : w141.cell? ⟨gb324, 4, none⟩ = some (.int .i64 0) := (blk_cell BK324.out 4).trans rfl
         have hfs146 := blk_frozen BK324.out 4
         have hns146_0 := NB323_324.out
         have hns146_2 := NB325_324.out
         have hns146_3 := NB327_324.out
         have hns146_4 := NB328_324.out
         have hms146_0 := NB324_323.out
         have hms146_2 := NB324_325.out
         have hms146_3 := NB324_327.out
         have hms146_4 := NB324_328.out
         have hs147 : w141.cell? ⟨gb324, 5, none⟩ = some (.slice none 0 0) := (blk_cell BK324.out 5).trans rfl
         have hfs147 := blk_frozen BK324.out 5
         have hns147_0 := NB323_324.out
         have hns147_2 := NB325_324.out
         have hns147_3 := NB327_324.out
         have hns147_4 := NB328_324.out
         have hms147_0 := NB324_323.out
         have hms147_2 := NB324_325.out
         have hms147_3 := NB324_327.out
         have hms147_4 := NB324_328.out
         refine skip_ (w1 := ?_) (by rfl) rfl ?_ ?_
         rotate_left
         ·go_simp
          rfl
         refine hK.out _ _ ⟨(tcg NB327_324.out hHeld.1), (tcg NB327_324.out hHeld.2.1), (tcg NB327_324.out hHeld.2.2.1), (tcg NB327_324.out hHeld.2.2.2.1), (tcg NB327_324.out hHeld.2.2.2.2.1), (tcg NB327_324.out hHeld.2.2.2.2.2.1), (tcg NB328_324.out hHeld.2.2.2.2.2.2.1), (tcg NB328_324.out hHeld.2.2.2.2.2.2.2.1), (tcg NB328_324.out hHeld.2.2.2.2.2.2.2.2.1), (tcg NB328_324.out hHeld.2.2.2.2.2.2.2.2.2.1), (tcg NB328_324.out hHeld.2.2.2.2.2.2.2.2.2.2.1), (tcg NB328_324.out hHeld.2.2.2.2.2.2.2.2.2.2.2)⟩ (fun hHeld => ?_)
         clear hK K
         refine one_ (i := 3) (N := none) #[true, true, true, true, false] rfl rfl (by kernel_rfl) (by decide) (fun K hK => ?_)
         have hs148 : w141.cell? ⟨gb325, 0, none⟩ = some (.bool false) := (blk_cell BK325.out 0).trans rfl
         have hfs148 := blk_frozen BK325.out 0
         have hns148_0 := NB323_325.out
         have hns148_1 := NB324_325.out
         have hns148_3 := NB327_325.out
         have hns148_4 := NB328_325.out
         have hms148_0 := NB325_323.out
         have hms148_1 := NB325_324.out
         have hms148_3 := NB325_327.out
         have hms148_4 := NB325_328.out
         have hs149 : w141.cell? ⟨gb325, 1, none⟩ = some (.bool false) := (blk_cell BK325.out 1).trans rfl
         have hfs149 := blk_frozen BK325.out 1
         have hns149_0 := NB323_325.out
         have hns149_1 := NB324_325.out
         have hns149_3 := NB327_325.out
         have hns149_4 := NB328_325.out
         have hms149_0 := NB325_323.out
         have hms149_1 := NB325_324.out
         have hms149_3 := NB325_327.out
         have hms149_4 := NB325_328.out
         have hs150 : w141.cell? ⟨gb325, 2, none⟩ = some (.int .i64 0) := (blk_cell BK325.out 2).trans rfl
         have hfs150 := blk_frozen BK325.out 2
         have hns150_0 := NB323_325.out
         have hns150_1 := NB324_325.out
         have hns150_3 := NB327_325.out
         have hns150_4 := NB328_325.out
         have hms150_0 := NB325_323.out
         have hms150_1 := NB325_324.out
         have hms150_3 := NB325_327.out
         have hms150_4 := NB325_328.out
         have hs151 : w141.cell? ⟨gb325, 3, none⟩ = some (.int .i64 0) := (blk_cell BK325.out 3).trans rfl
         have hfs151 := blk_frozen BK325.out 3
         have hns151_0 := NB323_325.out
         have hns151_1 := NB324_325.out
         have hns151_3 := NB327_325.out
         have hns151_4 := NB328_325.out
         have hms151_0 := NB325_323.out
         have hms151_1 := NB325_324.out
         have hms151_3 := NB325_327.out
         have hms151_4 := NB325_328.out
         have hs152 : w141.cell? ⟨gb325, 4, none⟩ = some (.int .i64 0) := (blk_cell BK325.out 4).trans rfl
         have hfs152 := blk_frozen BK325.out 4
         have hns152_0 := NB323_325.out
         have hns152_1 := NB324_325.out
         have hns152_3 := NB327_325.out
         have hns152_4 := NB328_325.out
         have hms152_0 := NB325_323.out
         have hms152_1 := NB325_324.out
         have hms152_3 := NB325_327.out
         have hms152_4 := NB325_328.out
         have hs153 : w141.cell? ⟨gb325, 5, none⟩ = some (.slice none 0 0) := (blk_cell BK325.out 5).trans rfl
         have hfs153 := blk_frozen BK325.out 5
         have hns153_0 := NB323_325.out
         have hns153_1 := NB324_325.out
         have hns153_3 := NB327_325.out
         have hns153_4 := NB328_325.out
         have hms153_0 := NB325_323.out
         have hms153_1 := NB325_324.out
         have hms153_3 := NB325_327.out
         have hms153_4 := NB325_328.out
         refine skip_ (w1 := ?_) (by rfl) rfl ?_ ?_
         rotate_left
         ·go_simp
          rfl
         refine hK.out _ _ ⟨(tcg NB327_325.out hHeld.1), (tcg NB327_325.out hHeld.2.1), (tcg NB327_325.out hHeld.2.2.1), (tcg NB327_325.out hHeld.2.2.2.1), (tcg NB327_325.out hHeld.2.2.2.2.1), (tcg NB327_325.out hHeld.2.2.2.2.2.1), (tcg NB328_325.out hHeld.2.2.2.2.2.2.1), (tcg NB328_325.out hHeld.2.2.2.2.2.2.2.1), (tcg NB328_325.out hHeld.2.2.2.2.2.2.2.2.1), (tcg NB328_325.out hHeld.2.2.2.2.2.2.2.2.2.1), (tcg NB328_325.out hHeld.2.2.2.2.2.2.2.2.2.2.1), (tcg NB328_325.out hHeld.2.2.2.2.2.2.2.2.2.2.2)⟩ (fun hHeld => ?_)
         clear hK K
         refine pure_ (i := 4) (N := some 6) (v := ?_) (a' := ?_) #[true, true, true, true, true] rfl rfl (by kernel_rfl) (fun _ _ _ h => h) (Or.inl ⟨by rfl, ?_⟩) ?_ ?_
         rotate_left
         ·intro w'
          go_simp
          with_reducible rfl
         rotate_left
         ·simp only [Act.put, List.setIfInBounds_toArray, List.set_cons_zero, List.set_cons_succ, i64_w, i32_w]
          rfl
         refine done_ (by kernel_rfl) ?_
         try go_wp2
         refine bodyPost_ret (results_list (rs := [.cell 4 47, .cell 5 47, .tmp 6]) rfl (by simp) (.cell gb324 47 #[.bool a0_0, .bool false, .int .i64 255, .int .i64 0, .int .i64 0, .slice Ao135 x328005_2.length co135] (0, 0) _ rfl (tP BK324.out) Tryd.underlying47 rfl (by kernel_rfl) (.cell gb325 47 #[.bool a0_0, .bool false, .int .i64 255, .int .i64 0, .int .i64 0, .slice Ao140 x329005_2.length co140] (0, 0) _ rfl (tP BK325.out) Tryd.underlying47 rfl (by kernel_rfl) (.tmp .nil)))) rfl ?_
         exact ⟨_, _, by first | rfl | (simp [errW_none, errW_some] <;> rfl) | (simp [*, errW_none, errW_some] <;> rfl), tSm (Kd.S_types (Kd.S_types HO_328005.out BK324.out (by decide)) BK325.out (by decide)), tSm (Kd.S_types (Kd.S_types HO_329005.out BK324.out (by decide)) BK325.out (by decide)), zb⟩

end Go.Proofs.YtbbboachakkgiaaDoor.G

