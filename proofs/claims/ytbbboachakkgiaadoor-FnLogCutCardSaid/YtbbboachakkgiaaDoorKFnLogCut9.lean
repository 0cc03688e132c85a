/- A text of seat YtbbboachakkgiaaDoor: what the law FnLogCut needs of this repo's texts (by pack.py). Not trusted: Lean checks it. -/
import Derived.Test.YtbbboachakkgiaaDoorKFnLogCut8
namespace Go.Proofs.YtbbboachakkgiaaDoor.G
open Go.RowKit Go.Proofs.YtbbboachakkgiaaDoorW.PrintWords Go.Proofs.YtbbboachakkgiaaDoorW.PrintLast Go.Proofs.YtbbboachakkgiaaDoorW.PrintMore
attribute [local go_sem] max2_int min2_int max_two min_two max_three min_three max_four min_four   -- for this text's walks alone
set_option linter.unusedVariables false
set_option linter.unusedSimpArgs false

mutual
def spec_BatchCut.j0 : Nat → Int → Bool → Bool → Bool → Int → Int → Int → List (S33) → Option (Bool × Bool × Int × Int × Int × (List (S33)) × Bool × Bool × Int × Int × Int × (List (S33)) × Bool)
 | 0, _, _, _, _, _, _, _, _ => none
 | k + 1, x1, x15, x476000, x476001, x476002, x476003, x476004, x476005 => if x15 = true then (some (false, false, 0, 0, 0, ([] : List (S33)), false, false, 0, 0, 0, ([] : List (S33)), false)) else (spec_BatchCut.l0 k x1 0 x476000 x476001 x476002 x476003 x476004 x476005)
def spec_BatchCut.j2 : Nat → Int → Bool → Bool → Int → Int → Int → List (S33) → Option (Bool × Bool × Int × Int × Int × (List (S33)) × Bool × Bool × Int × Int × Int × (List (S33)) × Bool)
 | 0, _, _, _, _, _, _, _ => none
 | k + 1, x7, x476000, x476001, x476002, x476003, x476004, x476005 => if x7 = 0 then (spec_BatchCut.j3 k x7 true x476000 x476001 x476002 x476003 x476004 x476005) else (spec_BatchCut.j3 k x7 (x7 == (x476005.length : Int)) x476000 x476001 x476002 x476003 x476004 x476005)
def spec_BatchCut.j3 : Nat → Int → Bool → Bool → Bool → Int → Int → Int → List (S33) → Option (Bool × Bool × Int × Int × Int × (List (S33)) × Bool × Bool × Int × Int × Int × (List (S33)) × Bool)
 | 0, _, _, _, _, _, _, _, _ => none
 | k + 1, x7, x43, x476000, x476001, x476002, x476003, x476004, x476005 => if x43 = true then (some (false, false, 0, 0, 0, ([] : List (S33)), false, false, 0, 0, 0, ([] : List (S33)), false)) else (if 0 ≤ x7 then (if x7 ≤ (x476005.length : Int) then ((spec_l31Free.f k x476000 (x476005.take (x7 : Int).toNat)).bind fun bt484 => ((spec_l31Free.f k x476000 (x476005.drop (x7 : Int).toNat)).bind fun bt496 => (some (bt484.1, bt484.2.1, bt484.2.2.1, bt484.2.2.2.1, bt484.2.2.2.2.1, bt484.2.2.2.2.2, bt496.1, bt496.2.1, bt496.2.2.1, bt496.2.2.2.1, bt496.2.2.2.2.1, bt496.2.2.2.2.2, true)))) else (none)) else (none))
def spec_BatchCut.l0 : Nat → Int → Int → Bool → Bool → Int → Int → Int → List (S33) → Option (Bool × Bool × Int × Int × Int × (List (S33)) × Bool × Bool × Int × Int × Int × (List (S33)) × Bool)
 | 0, _, _, _, _, _, _, _, _ => none
 | k + 1, x1, x7, x476000, x476001, x476002, x476003, x476004, x476005 => if x7 < (x476005.length : Int) then (if 0 ≤ x7 then (if ((rd_T33 x476005 x7).f0) < x1 then (spec_BatchCut.l0 k x1 (wrap64 (x7 + 1)) x476000 x476001 x476002 x476003 x476004 x476005) else (spec_BatchCut.j2 k x7 x476000 x476001 x476002 x476003 x476004 x476005)) else (none)) else (spec_BatchCut.j2 k x7 x476000 x476001 x476002 x476003 x476004 x476005)
end
def spec_BatchCut.f (k : Nat) (a0_0 : Bool) (a0_1 : Bool) (a0_2 : Int) (a0_3 : Int) (a0_4 : Int) (l0_5 : List (S33)) (a1 : Int) : Option (Bool × Bool × Int × Int × Int × (List (S33)) × Bool × Bool × Int × Int × Int × (List (S33)) × Bool) := (spec_BatchValid.f k a0_0 a0_1 a0_2 a0_3 a0_4 l0_5).bind fun t478 => (if t478 = true then (spec_BatchCut.j0 k a1 (a0_2 != 255) a0_0 a0_1 a0_2 a0_3 a0_4 l0_5) else (spec_BatchCut.j0 k a1 true a0_0 a0_1 a0_2 a0_3 a0_4 l0_5))
def spec_BatchCut.T8 : Bool × List (List Nat × List Nat) := (true, [([], []), ([0], [0]), ([], []), ([2], [2]), ([], []), ([3, 4], [3, 4]), ([1, 5], [1, 5]), ([], []), ([7], [7]), ([], []), ([9], [9]), ([], []), ([10, 11], [10, 11]), ([8, 12, 6], [8, 12]), ([6, 13, 0, 1, 2, 3, 4, 5, 6], [6]), ([13, 14, 0, 1, 2, 3, 4, 5, 6, 7, 8, 9, 10, 11, 12, 13, 14], [13]), ([15, 0, 1, 2, 3, 4, 5, 6, 7, 8, 9, 10, 11, 12, 13, 14, 15], [])])
def spec_BatchCut.B8 : List Nat := [0, 1, 0, 4, 0, 28, 63, 0, 128, 0, 512, 0, 3584, 8191, 16383, 32767, 65535]
theorem spec_BatchCut.tab8 : rtab .any (opsOf Tryd.f41 8) = spec_BatchCut.T8 := by kernel_rfl
theorem spec_BatchCut.bits8 : waitsOk spec_BatchCut.T8.2 spec_BatchCut.B8 = true := by kernel_rfl
set_option maxHeartbeats 8000000 in
set_option maxRecDepth 100000 in
theorem spec_BatchCut.calls (k : Nat) (a0_0 : Bool) (a0_1 : Bool) (a0_2 : Int) (a0_3 : Int) (a0_4 : Int) (A0_5 : Option Addr) (c0_5 : Nat) (l0_5 : List (S33)) (a1 : Int) (r1 : Bool) (r2 : Bool) (r3 : Int) (r4 : Int) (r5 : Int) (r6 : List (S33)) (r7 : Bool) (r8 : Bool) (r9 : Int) (r10 : Int) (r11 : Int) (r12 : List (S33)) (r13 : Bool) (w : World) (hr0_5 : Kd.C k33 w A0_5 l0_5.length l0_5) (hc0_5 : l0_5.length ≤ c0_5) (h : spec_BatchCut.f k a0_0 a0_1 a0_2 a0_3 a0_4 l0_5 a1 = some (r1, r2, r3, r4, r5, r6, r7, r8, r9, r10, r11, r12, r13)) :
  Calls Tryd.prog 41 #[.agg #[.bool a0_0, .bool a0_1, .int .i64 a0_2, .int .i64 a0_3, .int .i64 a0_4, .slice A0_5 l0_5.length c0_5], .int .i64 a1] w fun e w' => ∃ v5_ v11_ : Value, e = .returned (.tuple #[.agg #[.bool r1, .bool r2, .int .i64 r3, .int .i64 r4, .int .i64 r5, v5_], .agg #[.bool r7, .bool r8, .int .i64 r9, .int .i64 r10, .int .i64 r11, v11_], .bool r13]) ∧ Kd.S k33 33 w' w.heap.size (fun k_ => some k_ ≠ (v11_ : Value).ownBlock) v5_ r6 ∧ Kd.S k33 33 w' w.heap.size (fun k_ => some k_ ≠ (v5_ : Value).ownBlock) v11_ r12 ∧ Below w.heap.size w w' := by
 have hu47 := Tryd.underlying47
 have HR0_5 := Aside0.mk hr0_5
 have HC0_5 := Aside0.mk hc0_5
 clear hr0_5 hc0_5
 have HB := Aside0.mk (Below.refl w.heap.size w)
 have H : ((spec_BatchValid.f k a0_0 a0_1 a0_2 a0_3 a0_4 l0_5).bind fun t478 => (if t478 = true then (spec_BatchCut.j0 k a1 (a0_2 != 255) a0_0 a0_1 a0_2 a0_3 a0_4 l0_5) else (spec_BatchCut.j0 k a1 true a0_0 a0_1 a0_2 a0_3 a0_4 l0_5))) = some (r1, r2, r3, r4, r5, r6, r7, r8, r9, r10, r11, r12, r13) := h
 clear h
 have HC3 := Aside0.mk H
 clear H
 go_enter Tryd.func41, Tryd.ntmps41
 go_upto_region 1 with (first | ((with_reducible refine gate_dst (N := 2) rfl ?_); (try (refine gate_guard (by rfl) ?_; dsimp only)); refine box_event ?hg (N := 2) ?hd (cs := #[.bool a0_0, .bool a0_1, .int .i64 a0_2, .int .i64 a0_3, .int .i64 a0_4, .slice A0_5 l0_5.length c0_5]) (t := 47) ?hr ?_; (case hd => rfl); (case hg => rfl); (case hr => first | (go_simp; done) | (go_simp; rfl)); intro gb475 hg w4 hbox hb; have BK475 := Aside0.mk (hbox); have GW475 := tge HB hg; have GE475 := tge HB hg; replace HB := tBs HB hb; clear hb hbox hg) | ((with_reducible refine gate_dst (N := 4) rfl ?_); (try (refine gate_guard (by rfl) ?_; dsimp only)); refine box_event ?hg (N := 4) ?hd (cs := #[.bool false, .bool false, .int .i64 0, .int .i64 0, .int .i64 0, .slice none 0 0]) (t := 47) ?hr ?_; (case hd => rfl); (case hg => rfl); (case hr => first | (go_simp; done) | (go_simp; rfl)); intro gb476 hg w5 hbox hb; have BK476 := Aside0.mk (hbox); have GW476 := tge HB hg; have GE476 := tge HB hg; replace HB := tBs HB hb; have NB475_476 := tlt BK475 hg; have NB476_475 := tgt BK475 hg; replace BK475 := tBb BK475 hb; clear hb hbox hg) | ((with_reducible refine gate_dst (N := 5) rfl ?_); (try (refine gate_guard (by rfl) ?_; dsimp only)); refine box_event ?hg (N := 5) ?hd (cs := #[.bool false, .bool false, .int .i64 0, .int .i64 0, .int .i64 0, .slice none 0 0]) (t := 47) ?hr ?_; (case hd => rfl); (case hg => rfl); (case hr => first | (go_simp; done) | (go_simp; rfl)); intro gb477 hg w6 hbox hb; have BK477 := Aside0.mk (hbox); have GW477 := tge HB hg; have GE477 := tge HB hg; replace HB := tBs HB hb; have NB475_477 := tlt BK475 hg; have NB477_475 := tgt BK475 hg; replace BK475 := tBb BK475 hb; have NB476_477 := tlt BK476 hg; have NB477_476 := tgt BK476 hg; replace BK476 := tBb BK476 hb; clear hb hbox hg))
 (try simp only [Act.put, List.setIfInBounds_toArray, List.set_cons_zero, List.set_cons_succ])
 go_cut [15] (fun v15 wc => ∃ (kq : Nat) (x15_2 : Bool), v15 = .bool x15_2 ∧ Aside0 (spec_BatchCut.j0 kq a1 x15_2 a0_0 a0_1 a0_2 a0_3 a0_4 l0_5 = some (r1, r2, r3, r4, r5, r6, r7, r8, r9, r10, r11, r12, r13)) ∧ Aside0 (kq ≤ k) ∧ Aside0 (wc.heap[gb475]? = some (.cells #[.bool a0_0, .bool a0_1, .int .i64 a0_2, .int .i64 a0_3, .int .i64 a0_4, (.slice A0_5 l0_5.length c0_5)] 47 (0, 0))) ∧ Aside0 (wc.heap[gb476]? = some (.cells #[.bool false, .bool false, .int .i64 0, .int .i64 0, .int .i64 0, (.slice none 0 0)] 47 (0, 0))) ∧ Aside0 (wc.heap[gb477]? = some (.cells #[.bool false, .bool false, .int .i64 0, .int .i64 0, .int .i64 0, (.slice none 0 0)] 47 (0, 0))) ∧ Aside0 (Below w.heap.size w wc))
 case first =>
  have H := HC3.out
  clear HC3
  replace H := tbe H
  obtain ⟨t478, A7, H⟩ := H
  by_cases c8 : t478 = true
  ·subst c8
   rw [if_pos rfl] at H
   have H' := Aside0.mk H
   clear H
   have hnb9 := NB475_476.out
   have hnc9 := NB476_475.out
   have hnb10 := NB475_477.out
   have hnc10 := NB477_475.out
   obtain ⟨hcz11_0, hcz11_1, hcz11_2, hcz11_3, hcz11_4, hcz11_5, hfz11_0, hfz11_1, hfz11_2, hfz11_3, hfz11_4, hfz11_5⟩ := cells6 BK475.out
   go_wp2_with (first | ((with_reducible refine gate_callee (f := 59) rfl ?_); refine goesL_ (some 9) rfl rfl Tryd.func59 (by kernel_rfl) rfl #[.agg #[.bool a0_0, .bool a0_1, .int .i64 a0_2, .int .i64 a0_3, .int .i64 a0_4, .slice A0_5 l0_5.length c0_5]] rfl tq ?_; (with_reducible refine (spec_BatchValid.calls k a0_0 a0_1 a0_2 a0_3 a0_4 _ _ l0_5 true _ ?side1 ?side2 A7.out).mono ?_); (case side1 => exact tC (Kd.C_below HR0_5.out HB.out)); (case side2 => exact HC0_5.out); rintro e w12 ⟨rfl, hb⟩; refine ⟨_, rfl, ?_⟩; replace BK475 := tBb BK475 hb; replace BK476 := tBb BK476 hb; replace BK477 := tBb BK477 hb; replace HB := tBs HB hb; (try clear hb); (try clear hb2); (try clear hk); (try clear hi); obtain ⟨hcz13_0, hcz13_1, hcz13_2, hcz13_3, hcz13_4, hcz13_5, hfz13_0, hfz13_1, hfz13_2, hfz13_3, hfz13_4, hfz13_5⟩ := cells6 BK475.out))
   go_meet
   case rel => exact ⟨_, ((a0_2 != 255)), tr, H', ⟨by first | omega | exact Nat.le_refl _⟩, ⟨tH BK475.out⟩, ⟨tH BK476.out⟩, ⟨tH BK477.out⟩, ⟨zb⟩⟩
  ·replace c8 := Bool.eq_false_iff.mpr c8
   subst c8
   rw [if_neg (show ¬ (false = true) by decide)] at H
   have H' := Aside0.mk H
   clear H
   have hnb14 := NB475_476.out
   have hnc14 := NB476_475.out
   have hnb15 := NB475_477.out
   have hnc15 := NB477_475.out
   obtain ⟨hcz16_0, hcz16_1, hcz16_2, hcz16_3, hcz16_4, hcz16_5, hfz16_0, hfz16_1, hfz16_2, hfz16_3, hfz16_4, hfz16_5⟩ := cells6 BK475.out
   go_wp2_with (first | ((with_reducible refine gate_callee (f := 59) rfl ?_); refine goesL_ (some 9) rfl rfl Tryd.func59 (by kernel_rfl) rfl #[.agg #[.bool a0_0, .bool a0_1, .int .i64 a0_2, .int .i64 a0_3, .int .i64 a0_4, .slice A0_5 l0_5.length c0_5]] rfl tq ?_; (with_reducible refine (spec_BatchValid.calls k a0_0 a0_1 a0_2 a0_3 a0_4 _ _ l0_5 false _ ?side1 ?side2 A7.out).mono ?_); (case side1 => exact tC (Kd.C_below HR0_5.out HB.out)); (case side2 => exact HC0_5.out); rintro e w17 ⟨rfl, hb⟩; refine ⟨_, rfl, ?_⟩; replace BK475 := tBb BK475 hb; replace BK476 := tBb BK476 hb; replace BK477 := tBb BK477 hb; replace HB := tBs HB hb; (try clear hb); (try clear hb2); (try clear hk); (try clear hi)))
   go_meet
   case rel => exact ⟨_, (true), tr, H', ⟨by first | omega | exact Nat.le_refl _⟩, ⟨tH BK475.out⟩, ⟨tH BK476.out⟩, ⟨tH BK477.out⟩, ⟨zb⟩⟩
 case rest =>
  clear HC3
  obtain ⟨kq, x15_2, rfl, HA, HJ2, BK475, BK476, BK477, HB⟩ := hcut
  cases kq with
  | zero => exact absurd HA.out (by simp [spec_BatchCut.j0])
  | succ kj2 =>
   have H := HA.out
   clear HA
   simp only [spec_BatchCut.j0] at H
   by_cases c18 : x15_2 = true
   ·subst c18
    rw [if_pos rfl] at H
    simp only [Option.some.injEq, Prod.mk.injEq] at H
    obtain ⟨rfl, rfl, rfl, rfl, rfl, rfl, rfl, rfl, rfl, rfl, rfl, rfl, rfl⟩ := H
    have hnb19 := NB476_475.out
    have hnc19 := NB475_476.out
    have hnb20 := NB476_477.out
    have hnc20 := NB477_476.out
    obtain ⟨hcz21_0, hcz21_1, hcz21_2, hcz21_3, hcz21_4, hcz21_5, hfz21_0, hfz21_1, hfz21_2, hfz21_3, hfz21_4, hfz21_5⟩ := cells6 BK476.out
    have hnb22 := NB477_475.out
    have hnc22 := NB475_477.out
    obtain ⟨hcz23_0, hcz23_1, hcz23_2, hcz23_3, hcz23_4, hcz23_5, hfz23_0, hfz23_1, hfz23_2, hfz23_3, hfz23_4, hfz23_5⟩ := cells6 BK477.out
    go_wp2
    refine bodyPost_ret (results_list (rs := [.cell 4 47, .cell 5 47, .tmp 6]) rfl (by simp) (.cell gb476 47 #[.bool false, .bool false, .int .i64 0, .int .i64 0, .int .i64 0, .slice none 0 0] (0, 0) _ rfl (tP BK476.out) Tryd.underlying47 rfl (by kernel_rfl) (.cell gb477 47 #[.bool false, .bool false, .int .i64 0, .int .i64 0, .int .i64 0, .slice none 0 0] (0, 0) _ rfl (tP BK477.out) Tryd.underlying47 rfl (by kernel_rfl) (.tmp .nil)))) rfl ?_
    exact ⟨_, _, by first | rfl | (simp [errW_none, errW_some] <;> rfl) | (simp [*, errW_none, errW_some] <;> rfl), by first | exact Kd.S_nil _ _ _ _ _ | exact Kd.N_nil _ _ _ _ _ | exact Kd.V_nil _ _ _ _ _ | exact Kd.Q_nil _ _ _ _ _ | exact Kd.R_nil _ _ _ _ _, by first | exact Kd.S_nil _ _ _ _ _ | exact Kd.N_nil _ _ _ _ _ | exact Kd.V_nil _ _ _ _ _ | exact Kd.Q_nil _ _ _ _ _ | exact Kd.R_nil _ _ _ _ _, zb⟩
   ·replace c18 := Bool.eq_false_iff.mpr c18
    subst c18
    rw [if_neg (show ¬ (false = true) by decide)] at H
    have HC24 := Aside0.mk H
    clear H
    go_upto_block 0 with (fail)
    go_cut [7] (fun v7 wc => ∃ (kq : Nat) (x7_23 : Int), v7 = .int .i64 x7_23 ∧ Aside0 (spec_BatchCut.j2 kq x7_23 a0_0 a0_1 a0_2 a0_3 a0_4 l0_5 = some (r1, r2, r3, r4, r5, r6, r7, r8, r9, r10, r11, r12, r13)) ∧ Aside0 (kq ≤ kj2) ∧ Aside0 (wc.heap[gb475]? = some (.cells #[.bool a0_0, .bool a0_1, .int .i64 a0_2, .int .i64 a0_3, .int .i64 a0_4, (.slice A0_5 l0_5.length c0_5)] 47 (0, 0))) ∧ Aside0 (wc.heap[gb476]? = some (.cells #[.bool false, .bool false, .int .i64 0, .int .i64 0, .int .i64 0, (.slice none 0 0)] 47 (0, 0))) ∧ Aside0 (wc.heap[gb477]? = some (.cells #[.bool false, .bool false, .int .i64 0, .int .i64 0, .int .i64 0, (.slice none 0 0)] 47 (0, 0))) ∧ Aside0 (Below w.heap.size w wc))
    case first =>
     have H := HC24.out
     clear HC24
     have H' := Aside0.mk H
     clear H
     go_wp2
     go_loopg [7] kj2 (fun kq v7 w' => ∃ (x7_2 : Int), v7 = .int .i64 x7_2 ∧ Aside0 (spec_BatchCut.l0 kq a1 x7_2 a0_0 a0_1 a0_2 a0_3 a0_4 l0_5 = some (r1, r2, r3, r4, r5, r6, r7, r8, r9, r10, r11, r12, r13)) ∧ Aside0 (kq ≤ kj2) ∧ Aside0 (w'.heap[gb475]? = some (.cells #[.bool a0_0, .bool a0_1, .int .i64 a0_2, .int .i64 a0_3, .int .i64 a0_4, (.slice A0_5 l0_5.length c0_5)] 47 (0, 0))) ∧ Aside0 (w'.heap[gb476]? = some (.cells #[.bool false, .bool false, .int .i64 0, .int .i64 0, .int .i64 0, (.slice none 0 0)] 47 (0, 0))) ∧ Aside0 (w'.heap[gb477]? = some (.cells #[.bool false, .bool false, .int .i64 0, .int .i64 0, .int .i64 0, (.slice none 0 0)] 47 (0, 0))) ∧ Aside0 (Below w.heap.size w w'))
     case atStart => exact ⟨(0), tr, H', ⟨Nat.le_refl _⟩, ⟨tH BK475.out⟩, ⟨tH BK476.out⟩, ⟨tH BK477.out⟩, ⟨zb⟩⟩
     case round =>
      clear H'
      try clear c18
      obtain ⟨x7_2, rfl, HA, HK2, BK475, BK476, BK477, HB⟩ := hrel
      cases gk with
      | zero => exact absurd HA.out (by simp [spec_BatchCut.l0])
      | succ k2 =>
       have H := HA.out
       clear HA
       simp only [spec_BatchCut.l0] at H
       by_cases c25 : x7_2 < (l0_5.length : Int)
       ·rw [if_pos c25] at H
        have c25b0 : decide (x7_2 < (l0_5.length : Int)) = true := decide_eq_true c25
        clear c25
        (first | rw [c25b0] | (simp only [i64_w, i32_w]; rw [c25b0]) | skip)
        by_cases c26 : 0 ≤ x7_2
        ·rw [if_pos c26] at H
         have c26b0 : decide (0 ≤ x7_2) = true := decide_eq_true c26
         clear c26
         by_cases c27 : ((rd_T33 l0_5 x7_2).f0) < a1
         ·rw [if_pos c27] at H
          have c27b0 : decide (((rd_T33 l0_5 x7_2).f0) < a1) = true := decide_eq_true c27
          clear c27
          have H' := Aside0.mk H
          clear H
          have hnb28 := NB475_476.out
          have hnc28 := NB476_475.out
          have hnb29 := NB475_477.out
          have hnc29 := NB477_475.out
          obtain ⟨hcz30_0, hcz30_1, hcz30_2, hcz30_3, hcz30_4, hcz30_5, hfz30_0, hfz30_1, hfz30_2, hfz30_3, hfz30_4, hfz30_5⟩ := cells6 BK475.out
          have p479 : 0 ≤ (x7_2 : Int) := td
          have q479 : x7_2 < (l0_5.length : Int) := td
          obtain ⟨ad479, A479_3, c479_3, A479_5, c479_5, e479, hx479_0, hx479_1, hx479_2, hx479_3, hx479_4, hx479_5, hl479_3, hi479_3, hl479_5, hi479_5⟩ := at_T33 HR0_5.out x7_2 p479 q479
          cases e479
          replace hx479_0 := tcl HB hx479_0
          replace hx479_1 := tcl HB hx479_1
          replace hx479_2 := tcl HB hx479_2
          replace hx479_3 := tcl HB hx479_3
          replace hx479_4 := tcl HB hx479_4
          replace hx479_5 := tcl HB hx479_5
          have HR479_3 := Aside0.mk hi479_3
          have HC479_3 := Aside0.mk hl479_3
          clear hi479_3 hl479_3
          have HR479_5 := Aside0.mk hi479_5
          have HC479_5 := Aside0.mk hl479_5
          clear hi479_5 hl479_5
          replace p479 := eq_true p479
          replace q479 := eq_true q479
          go_wp2
          go_roundg k2
          case measure => have := HJ2.out; have := HK2.out; omega
          case rel => exact ⟨(wrap64 (x7_2 + 1)), tr, H', ⟨by have := HJ2.out; have := HK2.out; omega⟩, ⟨tH BK475.out⟩, ⟨tH BK476.out⟩, ⟨tH BK477.out⟩, ⟨zb⟩⟩
         ·rw [if_neg c27] at H
          have c27b0 : decide (((rd_T33 l0_5 x7_2).f0) < a1) = false := decide_eq_false c27
          clear c27
          have H' := Aside0.mk H
          clear H
          have hnb31 := NB475_476.out
          have hnc31 := NB476_475.out
          have hnb32 := NB475_477.out
          have hnc32 := NB477_475.out
          obtain ⟨hcz33_0, hcz33_1, hcz33_2, hcz33_3, hcz33_4, hcz33_5, hfz33_0, hfz33_1, hfz33_2, hfz33_3, hfz33_4, hfz33_5⟩ := cells6 BK475.out
          have p479 : 0 ≤ (x7_2 : Int) := td
          have q479 : x7_2 < (l0_5.length : Int) := td
          obtain ⟨ad479, A479_3, c479_3, A479_5, c479_5, e479, hx479_0, hx479_1, hx479_2, hx479_3, hx479_4, hx479_5, hl479_3, hi479_3, hl479_5, hi479_5⟩ := at_T33 HR0_5.out x7_2 p479 q479
          cases e479
          replace hx479_0 := tcl HB hx479_0
          replace hx479_1 := tcl HB hx479_1
          replace hx479_2 := tcl HB hx479_2
          replace hx479_3 := tcl HB hx479_3
          replace hx479_4 := tcl HB hx479_4
          replace hx479_5 := tcl HB hx479_5
          have HR479_3 := Aside0.mk hi479_3
          have HC479_3 := Aside0.mk hl479_3
          clear hi479_3 hl479_3
          have HR479_5 := Aside0.mk hi479_5
          have HC479_5 := Aside0.mk hl479_5
          clear hi479_5 hl479_5
          replace p479 := eq_true p479
          replace q479 := eq_true q479
          go_wp2
          go_meet
          case rel => exact ⟨_, (x7_2), tr, H', ⟨by have := HJ2.out; have := HK2.out; first | omega | exact Nat.le_refl _⟩, ⟨tH BK475.out⟩, ⟨tH BK476.out⟩, ⟨tH BK477.out⟩, ⟨zb⟩⟩
        ·rw [if_neg c26] at H
         exact absurd H (by simp)
       ·rw [if_neg c25] at H
        have c25b0 : decide (x7_2 < (l0_5.length : Int)) = false := decide_eq_false c25
        clear c25
        (first | rw [c25b0] | (simp only [i64_w, i32_w]; rw [c25b0]) | skip)
        have H' := Aside0.mk H
        clear H
        have hnb34 := NB475_476.out
        have hnc34 := NB476_475.out
        have hnb35 := NB475_477.out
        have hnc35 := NB477_475.out
        obtain ⟨hcz36_0, hcz36_1, hcz36_2, hcz36_3, hcz36_4, hcz36_5, hfz36_0, hfz36_1, hfz36_2, hfz36_3, hfz36_4, hfz36_5⟩ := cells6 BK475.out
        go_wp2
        go_meet
        case rel => exact ⟨_, (x7_2), tr, H', ⟨by have := HJ2.out; have := HK2.out; first | omega | exact Nat.le_refl _⟩, ⟨tH BK475.out⟩, ⟨tH BK476.out⟩, ⟨tH BK477.out⟩, ⟨zb⟩⟩
    case rest =>
     clear HC24
     try clear c18
     obtain ⟨kq, x7_23, rfl, HA, HJ23, BK475, BK476, BK477, HB⟩ := hcut
     cases kq with
     | zero => exact absurd HA.out (by simp [spec_BatchCut.j2])
     | succ kj23 =>
      have H := HA.out
      clear HA
      simp only [spec_BatchCut.j2] at H
      have HC37 := Aside0.mk H
      clear H
      go_upto_region 6 with (fail)
      go_cut [43] (fun v43 wc => ∃ (kq : Nat) (x43_36 : Bool), v43 = .bool x43_36 ∧ Aside0 (spec_BatchCut.j3 kq x7_23 x43_36 a0_0 a0_1 a0_2 a0_3 a0_4 l0_5 = some (r1, r2, r3, r4, r5, r6, r7, r8, r9, r10, r11, r12, r13)) ∧ Aside0 (kq ≤ kj23) ∧ Aside0 (wc.heap[gb475]? = some (.cells #[.bool a0_0, .bool a0_1, .int .i64 a0_2, .int .i64 a0_3, .int .i64 a0_4, (.slice A0_5 l0_5.length c0_5)] 47 (0, 0))) ∧ Aside0 (wc.heap[gb476]? = some (.cells #[.bool false, .bool false, .int .i64 0, .int .i64 0, .int .i64 0, (.slice none 0 0)] 47 (0, 0))) ∧ Aside0 (wc.heap[gb477]? = some (.cells #[.bool false, .bool false, .int .i64 0, .int .i64 0, .int .i64 0, (.slice none 0 0)] 47 (0, 0))) ∧ Aside0 (Below w.heap.size w wc))
      case first =>
       have H := HC37.out
       clear HC37
       by_cases c38 : x7_23 = 0
       ·rw [if_pos c38] at H
        have c38b0 : (x7_23 == 0) = true := beq_iff_eq.mpr c38
        have c38b1 : (x7_23 != 0) = false := bne_eq_false_iff_eq.mpr c38
        clear c38
        (first | rw [c38b0] | (simp only [i64_w, i32_w]; rw [c38b0]) | skip)
        have H' := Aside0.mk H
        clear H
        go_wp2
        go_meet
        case rel => exact ⟨_, (true), tr, H', ⟨by have := HJ2.out; have := HJ23.out; first | omega | exact Nat.le_refl _⟩, ⟨tH BK475.out⟩, ⟨tH BK476.out⟩, ⟨tH BK477.out⟩, ⟨zb⟩⟩
       ·rw [if_neg c38] at H
        have c38b0 : (x7_23 == 0) = false := beq_eq_false_iff_ne.mpr c38
        have c38b1 : (x7_23 != 0) = true := bne_iff_ne.mpr c38
        (first | rw [c38b0] | (simp only [i64_w, i32_w]; rw [c38b0]) | skip)
        have H' := Aside0.mk H
        clear H
        have hnb39 := NB475_476.out
        have hnc39 := NB476_475.out
        have hnb40 := NB475_477.out
        have hnc40 := NB477_475.out
        obtain ⟨hcz41_0, hcz41_1, hcz41_2, hcz41_3, hcz41_4, hcz41_5, hfz41_0, hfz41_1, hfz41_2, hfz41_3, hfz41_4, hfz41_5⟩ := cells6 BK475.out
        go_wp2
        go_meet
        case rel => exact ⟨_, ((x7_23 == (l0_5.length : Int))), tr, H', ⟨by have := HJ2.out; have := HJ23.out; first | omega | exact Nat.le_refl _⟩, ⟨tH BK475.out⟩, ⟨tH BK476.out⟩, ⟨tH BK477.out⟩, ⟨zb⟩⟩
      case rest =>
       clear HC37
       try clear c18
       obtain ⟨kq, x43_36, rfl, HA, HJ36, BK475, BK476, BK477, HB⟩ := hcut
       cases kq with
       | zero => exact absurd HA.out (by simp [spec_BatchCut.j3])
       | succ kj36 =>
        have H := HA.out
        clear HA
        simp only [spec_BatchCut.j3] at H
        by_cases c42 : x43_36 = true
        ·subst c42
         rw [if_pos rfl] at H
         simp only [Option.some.injEq, Prod.mk.injEq] at H
         obtain ⟨rfl, rfl, rfl, rfl, rfl, rfl, rfl, rfl, rfl, rfl, rfl, rfl, rfl⟩ := H
         have hnb43 := NB476_475.out
         have hnc43 := NB475_476.out
         have hnb44 := NB476_477.out
         have hnc44 := NB477_476.out
         obtain ⟨hcz45_0, hcz45_1, hcz45_2, hcz45_3, hcz45_4, hcz45_5, hfz45_0, hfz45_1, hfz45_2, hfz45_3, hfz45_4, hfz45_5⟩ := cells6 BK476.out
         have hnb46 := NB477_475.out
         have hnc46 := NB475_477.out
         obtain ⟨hcz47_0, hcz47_1, hcz47_2, hcz47_3, hcz47_4, hcz47_5, hfz47_0, hfz47_1, hfz47_2, hfz47_3, hfz47_4, hfz47_5⟩ := cells6 BK477.out
         go_wp2
         refine bodyPost_ret (results_list (rs := [.cell 4 47, .cell 5 47, .tmp 6]) rfl (by simp) (.cell gb476 47 #[.bool false, .bool false, .int .i64 0, .int .i64 0, .int .i64 0, .slice none 0 0] (0, 0) _ rfl (tP BK476.out) Tryd.underlying47 rfl (by kernel_rfl) (.cell gb477 47 #[.bool false, .bool false, .int .i64 0, .int .i64 0, .int .i64 0, .slice none 0 0] (0, 0) _ rfl (tP BK477.out) Tryd.underlying47 rfl (by kernel_rfl) (.tmp .nil)))) rfl ?_
         exact ⟨_, _, by first | rfl | (simp [errW_none, errW_some] <;> rfl) | (simp [*, errW_none, errW_some] <;> rfl), by first | exact Kd.S_nil _ _ _ _ _ | exact Kd.N_nil _ _ _ _ _ | exact Kd.V_nil _ _ _ _ _ | exact Kd.Q_nil _ _ _ _ _ | exact Kd.R_nil _ _ _ _ _, by first | exact Kd.S_nil _ _ _ _ _ | exact Kd.N_nil _ _ _ _ _ | exact Kd.V_nil _ _ _ _ _ | exact Kd.Q_nil _ _ _ _ _ | exact Kd.R_nil _ _ _ _ _, zb⟩
        ·replace c42 := Bool.eq_false_iff.mpr c42
         subst c42
         rw [if_neg (show ¬ (false = true) by decide)] at H
         by_cases c48 : 0 ≤ x7_23
         ·rw [if_pos c48] at H
          have c48b0 := eq_true c48
          have c48b1 : decide (0 ≤ x7_23) = true := decide_eq_true c48
          clear c48
          by_cases c49 : x7_23 ≤ (l0_5.length : Int)
          ·rw [if_pos c49] at H
           have c49b0 := eq_true c49
           have c49b1 : decide (x7_23 ≤ (l0_5.length : Int)) = true := decide_eq_true c49
           clear c49
           obtain ⟨y480, hy480⟩ : ∃ y_ : List (S33), y_ = (l0_5.take (x7_23 : Int).toNat) := ⟨_, rfl⟩
           replace H : ((spec_l31Free.f kj36 a0_0 y480).bind fun bt484 => ((spec_l31Free.f kj36 a0_0 (l0_5.drop (x7_23 : Int).toNat)).bind fun bt496 => (some (bt484.1, bt484.2.1, bt484.2.2.1, bt484.2.2.2.1, bt484.2.2.2.2.1, bt484.2.2.2.2.2, bt496.1, bt496.2.1, bt496.2.2.1, bt496.2.2.2.1, bt496.2.2.2.2.1, bt496.2.2.2.2.2, true)))) = some (r1, r2, r3, r4, r5, r6, r7, r8, r9, r10, r11, r12, r13) := by first | (rw [hy480]; with_reducible exact H) | (have H2_ := (Option.bind_some _ _).symm.trans H; rw [hy480]; with_reducible exact H2_) | (have H2_ := (Option.bind_some _ _).symm.trans H; with_reducible exact H2_) | with_reducible exact H | (rw [hy480]; exact H) | exact H
           have Ny480 := Aside0.mk hy480
           clear hy480
           replace H := tbe H
           obtain ⟨⟨t484, t485, t486, t487, t488, t489⟩, A50, H⟩ := H
           dsimp only at H
           have c51b0 := eq_true (td : 0 ≤ x7_23)
           have c52b0 := eq_true (td : x7_23 ≤ (l0_5.length : Int))
           obtain ⟨y492, hy492⟩ : ∃ y_ : List (S33), y_ = (l0_5.drop (x7_23 : Int).toNat) := ⟨_, rfl⟩
           replace H : ((spec_l31Free.f kj36 a0_0 y492).bind fun bt496 => (some (t484, t485, t486, t487, t488, t489, bt496.1, bt496.2.1, bt496.2.2.1, bt496.2.2.2.1, bt496.2.2.2.2.1, bt496.2.2.2.2.2, true))) = some (r1, r2, r3, r4, r5, r6, r7, r8, r9, r10, r11, r12, r13) := by first | (rw [hy492]; with_reducible exact H) | (have H2_ := (Option.bind_some _ _).symm.trans H; rw [hy492]; with_reducible exact H2_) | (have H2_ := (Option.bind_some _ _).symm.trans H; with_reducible exact H2_) | with_reducible exact H | (rw [hy492]; exact H) | exact H
           have Ny492 := Aside0.mk hy492
           clear hy492
           replace H := tbe H
           obtain ⟨⟨t496, t497, t498, t499, t500, t501⟩, A53, H⟩ := H
           dsimp only at H
           simp only [Option.some.injEq, Prod.mk.injEq] at H
           obtain ⟨rfl, rfl, rfl, rfl, rfl, rfl, rfl, rfl, rfl, rfl, rfl, rfl, rfl⟩ := H
           try go_wp2
           replace BK475 := Aside0.mk (blk_drew BK475.out)
           replace BK476 := Aside0.mk (blk_drew BK476.out)
           replace BK477 := Aside0.mk (blk_drew BK477.out)
           replace HB := Aside0.mk (below_drew1 HB.out)
           have q55 : (x7_23 : Int) ≤ ((l0_5.length : Int) : Int) := td
           obtain ⟨i055, hi055, _, hsz55, _⟩ := info_parts info33
           have hroom55 : l0_5.length ≤ c0_5 := HC0_5.out
           have hC55 : Kd.C k33 _ A0_5 l0_5.length l0_5 := HR0_5.out
           have hcut55 := cut_to (P := Tryd.prog) 29 33 .i64 Tryd.underlying29 hi055 A0_5 l0_5.length c0_5 x7_23 (td) q55 hroom55
           have hr55 := Kd.C_take (m := (x7_23 : Int).toNat) hC55 (by omega)
           have hy55 : y480.length = (x7_23 : Int).toNat := (by rw [Ny480.out, List.length_take]; omega)
           rw [← Ny480.out] at hr55
           rw [← hy55] at hcut55
           have HR483 := Aside0.mk hr55
           have HC483 := Aside0.mk (show y480.length ≤ c0_5 from by omega)
           clear hr55 hC55 hroom55 hi055 hsz55
           have KY55 := Aside0.mk hy55
           clear hy55
           replace q55 := eq_true q55
           have q56 : (x7_23 : Int) ≤ ((l0_5.length : Int) : Int) := td
           obtain ⟨i056, hi056, _, hsz56, _⟩ := info_parts info33
           have hroom56 : l0_5.length ≤ c0_5 := HC0_5.out
           have hC56 : Kd.C k33 _ A0_5 l0_5.length l0_5 := HR0_5.out
           have q056 : (0 : Int) ≤ (x7_23 : Int) := td
           have hcut56 := cut_from (P := Tryd.prog) 29 33 .i64 Tryd.underlying29 hi056 6 hsz56 A0_5 l0_5.length c0_5 x7_23 q056 q56
           have hr56 := Kd.C_drop (m := (x7_23 : Int).toNat) (c := c0_5) hC56 (by omega) hroom56
           obtain ⟨A56, hA56⟩ : ∃ A1, A1 = (if c0_5 = (x7_23 : Int).toNat then A0_5 else (A0_5 : Option Addr).map (·.add ((x7_23 : Int).toNat * 6))) := ⟨_, rfl⟩
           obtain ⟨c56, hc56⟩ : ∃ c1, c1 = c0_5 - (x7_23 : Int).toNat := ⟨_, rfl⟩
           have hy56 : y492.length = l0_5.length - (x7_23 : Int).toNat := (by rw [Ny492.out, List.length_drop] <;> omega)
           rw [show (l0_5).drop (x7_23 : Int).toNat = y492 from Ny492.out.symm] at hr56
           replace hr56 : Kd.C k33 _ A56 y492.length y492 := (by rw [hA56]; exact hr56)
           rw [← hy56, ← hA56, ← hc56] at hcut56
           have HR495 := Aside0.mk hr56
           have HC495 := Aside0.mk (show y492.length ≤ c56 from by rw [hy56, hc56]; exact Nat.sub_le_sub_right hroom56 _)
           clear hr56 hC56 hroom56 hi056 hsz56 hc56
           have KY56 := Aside0.mk hy56
           have KA56 := Aside0.mk hA56
           clear hy56 hA56
           replace q56 := eq_true q56
           refine start_ (n := 17) (S := fun w' => w'.cell? ⟨gb475, 0, none⟩ = some (.bool a0_0) ∧ w'.cell? ⟨gb475, 1, none⟩ = some (.bool a0_1) ∧ w'.cell? ⟨gb475, 2, none⟩ = some (.int .i64 a0_2) ∧ w'.cell? ⟨gb475, 3, none⟩ = some (.int .i64 a0_3) ∧ w'.cell? ⟨gb475, 4, none⟩ = some (.int .i64 a0_4) ∧ w'.cell? ⟨gb475, 5, none⟩ = some (.slice A0_5 l0_5.length c0_5)) (ds := []) #[false, false, false, false, false, false, false, false, false, false, false, false, false, false, false, false, false] (by kernel_rfl) rfl rfl ⟨(blk_cell BK475.out 0).trans rfl, (blk_cell BK475.out 1).trans rfl, (blk_cell BK475.out 2).trans rfl, (blk_cell BK475.out 3).trans rfl, (blk_cell BK475.out 4).trans rfl, (blk_cell BK475.out 5).trans rfl⟩ (fun hHeld => ?_); refine with_tabW spec_BatchCut.tab8 spec_BatchCut.bits8 (fun HT_ HW_ => ?_)
           generalize wc.drew = w54 at BK475 BK476 BK477 HB HR483 HR495 hHeld ⊢
           refine pure_ (i := 0) (N := some 46) (v := ?_) (a' := ?_) #[true, false, false, false, false, false, false, false, false, false, false, false, false, false, false, false, false] rfl rfl (any_of HT_.out (by kernel_rfl)) (fun _ _ _ h => h) (Or.inl ⟨by rfl, ?_⟩) ?_ ?_
           rotate_left
           ·intro w'
            go_simp
            with_reducible rfl
           rotate_left
           ·simp only [Act.put, List.setIfInBounds_toArray, List.set_cons_zero, List.set_cons_succ, i64_w, i32_w]
            rfl
           refine pure_ (i := 2) (N := some 48) (v := ?_) (a' := ?_) #[true, false, true, false, false, false, false, false, false, false, false, false, false, false, false, false, false] rfl rfl (any_of HT_.out (by kernel_rfl)) (fun _ _ _ h => h) (Or.inl ⟨by rfl, ?_⟩) ?_ ?_
           rotate_left
           ·intro w'
            go_simp
            with_reducible rfl
           rotate_left
           ·simp only [Act.put, List.setIfInBounds_toArray, List.set_cons_zero, List.set_cons_succ, i64_w, i32_w]
            rfl
           refine pure_ (i := 4) (N := some 50) (v := ?_) (a' := ?_) #[true, false, true, false, true, false, false, false, false, false, false, false, false, false, false, false, false] rfl rfl (any_of HT_.out (by kernel_rfl)) (fun _ _ _ h => h) (Or.inl ⟨by rfl, ?_⟩) ?_ ?_
           rotate_left
           ·intro w'
            go_simp
            with_reducible rfl
           rotate_left
           ·simp only [Act.put, List.setIfInBounds_toArray, List.set_cons_zero, List.set_cons_succ, i64_w, i32_w]
            rfl
           refine pure_ (i := 7) (N := some 53) (v := ?_) (a' := ?_) #[true, false, true, false, true, false, false, true, false, false, false, false, false, false, false, false, false] rfl rfl (any_of HT_.out (by kernel_rfl)) (fun _ _ _ h => h) (Or.inl ⟨by rfl, ?_⟩) ?_ ?_
           rotate_left
           ·intro w'
            go_simp
            with_reducible rfl
           rotate_left
           ·simp only [Act.put, List.setIfInBounds_toArray, List.set_cons_zero, List.set_cons_succ, i64_w, i32_w]
            rfl
           refine pure_ (i := 9) (N := some 55) (v := ?_) (a' := ?_) #[true, false, true, false, true, false, false, true, false, true, false, false, false, false, false, false, false] rfl rfl (any_of HT_.out (by kernel_rfl)) (fun _ _ _ h => h) (Or.inl ⟨by rfl, ?_⟩) ?_ ?_
           rotate_left
           ·intro w'
            go_simp
            with_reducible rfl
           rotate_left
           ·simp only [Act.put, List.setIfInBounds_toArray, List.set_cons_zero, List.set_cons_succ, i64_w, i32_w]
            rfl
           refine pure_ (i := 11) (N := some 57) (v := ?_) (a' := ?_) #[true, false, true, false, true, false, false, true, false, true, false, true, false, false, false, false, false] rfl rfl (any_of HT_.out (by kernel_rfl)) (fun _ _ _ h => h) (Or.inl ⟨by rfl, ?_⟩) ?_ ?_
           rotate_left
           ·intro w'
            go_simp
            with_reducible rfl
           rotate_left
           ·simp only [Act.put, List.setIfInBounds_toArray, List.set_cons_zero, List.set_cons_succ, i64_w, i32_w]
            rfl
           refine take_ (i := 1) (N := some 47) (v := ?_) (a' := ?_) #[true, true, true, false, true, false, false, true, false, true, false, true, false, false, false, false, false] rfl rfl (take_ofW HT_.out HW_.out (by kernel_rfl)) (fun _ _ _ h => h) (Or.inl ⟨by rfl, ?_⟩) hHeld ?_ ?_
           rotate_left
           ·rintro w' ⟨s0, s1, s2, s3, s4, s5⟩
            go_simp
            with_reducible rfl
           rotate_left
           ·simp only [Act.put, List.setIfInBounds_toArray, List.set_cons_zero, List.set_cons_succ, i64_w, i32_w]
            rfl
           refine take_ (i := 3) (N := some 49) (v := ?_) (a' := ?_) #[true, true, true, true, true, false, false, true, false, true, false, true, false, false, false, false, false] rfl rfl (take_ofW HT_.out HW_.out (by kernel_rfl)) (fun _ _ _ h => h) (Or.inl ⟨by rfl, ?_⟩) hHeld ?_ ?_
           rotate_left
           ·rintro w' ⟨s0, s1, s2, s3, s4, s5⟩
            go_simp
            with_reducible rfl
           rotate_left
           ·simp only [Act.put, List.setIfInBounds_toArray, List.set_cons_zero, List.set_cons_succ, i64_w, i32_w]
            rfl
           refine pure_ (i := 5) (N := some 51) (v := ?_) (a' := ?_) #[true, true, true, true, true, true, false, true, false, true, false, true, false, false, false, false, false] rfl rfl (any_of HT_.out (by kernel_rfl)) (fun _ _ _ h => h) (Or.inl ⟨by rfl, ?_⟩) ?_ ?_
           rotate_left
           ·intro w'
            go_simp
            with_reducible rfl
           rotate_left
           ·simp only [Act.put, List.setIfInBounds_toArray, List.set_cons_zero, List.set_cons_succ, i64_w, i32_w]
            rfl
           refine take_ (i := 8) (N := some 54) (v := ?_) (a' := ?_) #[true, true, true, true, true, true, false, true, true, true, false, true, false, false, false, false, false] rfl rfl (take_ofW HT_.out HW_.out (by kernel_rfl)) (fun _ _ _ h => h) (Or.inl ⟨by rfl, ?_⟩) hHeld ?_ ?_
           rotate_left
           ·rintro w' ⟨s0, s1, s2, s3, s4, s5⟩
            go_simp
            with_reducible rfl
           rotate_left
           ·simp only [Act.put, List.setIfInBounds_toArray, List.set_cons_zero, List.set_cons_succ, i64_w, i32_w]
            rfl
           refine take_ (i := 10) (N := some 56) (v := ?_) (a' := ?_) #[true, true, true, true, true, true, false, true, true, true, true, true, false, false, false, false, false] rfl rfl (take_ofW HT_.out HW_.out (by kernel_rfl)) (fun _ _ _ h => h) (Or.inl ⟨by rfl, ?_⟩) hHeld ?_ ?_
           rotate_left
           ·rintro w' ⟨s0, s1, s2, s3, s4, s5⟩
            go_simp
            with_reducible rfl
           rotate_left
           ·simp only [Act.put, List.setIfInBounds_toArray, List.set_cons_zero, List.set_cons_succ, i64_w, i32_w]
            rfl
           refine pure_ (i := 12) (N := some 58) (v := ?_) (a' := ?_) #[true, true, true, true, true, true, false, true, true, true, true, true, true, false, false, false, false] rfl rfl (any_of HT_.out (by kernel_rfl)) (fun _ _ _ h => h) (Or.inl ⟨by rfl, ?_⟩) ?_ ?_
           rotate_left
           ·intro w'
            go_simp
            with_reducible rfl
           rotate_left
           ·simp only [Act.put, List.setIfInBounds_toArray, List.set_cons_zero, List.set_cons_succ, i64_w, i32_w]
            rfl
           refine one_ (i := 6) (N := some 52) #[true, true, true, true, true, true, true, true, true, true, true, true, true, false, false, false, false] rfl rfl (one_of HT_.out (by kernel_rfl)) (by decide) (fun K hK => ?_)
           refine goes_ Tryd.func63 (by kernel_rfl) rfl #[.bool a0_0, .slice A0_5 y480.length c0_5] (by rfl) rfl rfl tq ?_
           with_reducible refine (spec_l31Free.calls kj36 a0_0 _ _ y480 t484 t485 t486 t487 t488 t489 _ ?side1 ?side2 A50.out).mono ?_
           (case side1 => exact tC (Kd.C_below HR483.out HB.out))
           (case side2 => exact HC483.out)
           rintro e w57 ⟨v490, rfl, ho0, hb⟩
           refine ⟨_, rfl, ?_⟩
           have HO491 := tSl ho0 HB
           replace BK475 := tBb BK475 hb
           replace BK476 := tBb BK476 hb
           replace BK477 := tBb BK477 hb
           replace HB := tBs HB hb
           (try clear hb)
           (try clear hb2)
           (try clear hk)
           (try clear hi)
           (try clear ho0)
           refine hK.out _ _ ⟨(blk_cell BK475.out 0).trans rfl, (blk_cell BK475.out 1).trans rfl, (blk_cell BK475.out 2).trans rfl, (blk_cell BK475.out 3).trans rfl, (blk_cell BK475.out 4).trans rfl, (blk_cell BK475.out 5).trans rfl⟩ (fun hHeld => ?_)
           clear hK K
           refine norm_ (a' := ?_) ?_ ?_
           rotate_left
           ·show Act.put _ (some 52) _ = _
            simp only [Act.put, List.setIfInBounds_toArray, List.set_cons_zero, List.set_cons_succ, i64_w, i32_w]
            rfl
           refine one_ (i := 13) (N := some 59) #[true, true, true, true, true, true, true, true, true, true, true, true, true, true, false, false, false] rfl rfl (one_of HT_.out (by kernel_rfl)) (by decide) (fun K hK => ?_)
           refine goes_ Tryd.func63 (by kernel_rfl) rfl #[.bool a0_0, .slice A56 y492.length c56] (by rfl) rfl rfl tq ?_
           with_reducible refine (spec_l31Free.calls kj36 a0_0 _ _ y492 t496 t497 t498 t499 t500 t501 _ ?side1 ?side2 A53.out).mono ?_
           (case side1 => exact tC (Kd.C_below HR495.out HB.out))
           (case side2 => exact HC495.out)
           rintro e w58 ⟨v502, rfl, ho0, hb⟩
           refine ⟨_, rfl, ?_⟩
           have HO503 := Aside0.mk (Kd.S_lower (Kd.S_new' ho0 (Kd.S_lt (tS HO491.out))) (below_size zb))
           replace HO491 := Aside0.mk (Kd.S_elder' (tS HO491.out) (Kd.S_base ho0) hb)
           replace BK475 := tBb BK475 hb
           replace BK476 := tBb BK476 hb
           replace BK477 := tBb BK477 hb
           replace HB := tBs HB hb
           (try clear hb)
           (try clear hb2)
           (try clear hk)
           (try clear hi)
           (try clear ho0)
           obtain ⟨Ao64, co64, eo64⟩ := Kd.S_slice HO491.out
           (first | subst eo64 | (injection eo64 with f1_ f2_ f3_; have f4_ := f1_.symm; have f5_ := f3_.symm; clear f1_ f2_ f3_; subst f4_; subst f5_))
           obtain ⟨Ao71, co71, eo71⟩ := Kd.S_slice HO503.out
           (first | subst eo71 | (injection eo71 with f1_ f2_ f3_; have f4_ := f1_.symm; have f5_ := f3_.symm; clear f1_ f2_ f3_; subst f4_; subst f5_))
           refine hK.out _ _ ⟨(blk_cell BK475.out 0).trans rfl, (blk_cell BK475.out 1).trans rfl, (blk_cell BK475.out 2).trans rfl, (blk_cell BK475.out 3).trans rfl, (blk_cell BK475.out 4).trans rfl, (blk_cell BK475.out 5).trans rfl⟩ (fun hHeld => ?_)
           clear hK K
           refine norm_ (a' := ?_) ?_ ?_
           rotate_left
           ·show Act.put _ (some 59) _ = _
            simp only [Act.put, List.setIfInBounds_toArray, List.set_cons_zero, List.set_cons_succ, i64_w, i32_w]
            rfl
           refine one_ (i := 14) (N := none) #[true, true, true, true, true, true, true, true, true, true, true, true, true, true, true, false, false] rfl rfl (one_of HT_.out (by kernel_rfl)) (by decide) (fun K hK => ?_)
           have hs59 : w58.cell? ⟨gb476, 0, none⟩ = some (.bool false) := (blk_cell BK476.out 0).trans rfl
           have hfs59 := blk_frozen BK476.out 0
           have hns59_0 := NB475_476.out
           have hns59_2 := NB477_476.out
           have hms59_0 := NB476_475.out
           have hms59_2 := NB476_477.out
           have hs60 : w58.cell? ⟨gb476, 1, none⟩ = some (.bool false) := (blk_cell BK476.out 1).trans rfl
           have hfs60 := blk_frozen BK476.out 1
           have hns60_0 := NB475_476.out
           have hns60_2 := NB477_476.out
           have hms60_0 := NB476_475.out
           have hms60_2 := NB476_477.out
           have hs61 : w58.cell? ⟨gb476, 2, none⟩ = some (.int .i64 0) := (blk_cell BK476.out 2).trans rfl
           have hfs61 := blk_frozen BK476.out 2
           have hns61_0 := NB475_476.out
           have hns61_2 := NB477_476.out
           have hms61_0 := NB476_475.out
           have hms61_2 := NB476_477.out
           have hs62 : w58.cell? ⟨gb476, 3, none⟩ = some (.int .i64 0) := (blk_cell BK476.out 3).trans rfl
           have hfs62 := blk_frozen BK476.out 3
           have hns62_0 := NB475_476.out
           have hns62_2 := NB477_476.out
           have hms62_0 := NB476_475.out
           have hms62_2 := NB476_477.out
           have hs63 : w58.cell? ⟨gb476, 4, none⟩ = some (.int .i64 0) := (blk_cell BK476.out 4).trans rfl
           have hfs63 := blk_frozen BK476.out 4
           have hns63_0 := NB475_476.out
           have hns63_2 := NB477_476.out
           have hms63_0 := NB476_475.out
           have hms63_2 := NB476_477.out
           have hs65 : w58.cell? ⟨gb476, 5, none⟩ = some (.slice none 0 0) := (blk_cell BK476.out 5).trans rfl
           have hfs65 := blk_frozen BK476.out 5
           have hns65_0 := NB475_476.out
           have hns65_2 := NB477_476.out
           have hms65_0 := NB476_475.out
           have hms65_2 := NB476_477.out
           refine skip_ (w1 := ?_) (by rfl) rfl ?_ ?_
           rotate_left
           ·go_simp
            rfl
           refine hK.out _ _ ⟨(tcg NB475_476.out hHeld.1), (tcg NB475_476.out hHeld.2.1), (tcg NB475_476.out hHeld.2.2.1), (tcg NB475_476.out hHeld.2.2.2.1), (tcg NB475_476.out hHeld.2.2.2.2.1), (tcg NB475_476.out hHeld.2.2.2.2.2)⟩ (fun hHeld => ?_)
           clear hK K
           refine one_ (i := 15) (N := none) #[true, true, true, true, true, true, true, true, true, true, true, true, true, true, true, true, false] rfl rfl (one_of HT_.out (by kernel_rfl)) (by decide) (fun K hK => ?_)
           have hs66 : w58.cell? ⟨gb477, 0, none⟩ = some (.bool false) := (blk_cell BK477.out 0).trans rfl
           have hfs66 := blk_frozen BK477.out 0
           have hns66_0 := NB475_477.out
           have hns66_1 := NB476_477.out
           have hms66_0 := NB477_475.out
           have hms66_1 := NB477_476.out
           have hs67 : w58.cell? ⟨gb477, 1, none⟩ = some (.bool false) := (blk_cell BK477.out 1).trans rfl
           have hfs67 := blk_frozen BK477.out 1
           have hns67_0 := NB475_477.out
           have hns67_1 := NB476_477.out
           have hms67_0 := NB477_475.out
           have hms67_1 := NB477_476.out
           have hs68 : w58.cell? ⟨gb477, 2, none⟩ = some (.int .i64 0) := (blk_cell BK477.out 2).trans rfl
           have hfs68 := blk_frozen BK477.out 2
           have hns68_0 := NB475_477.out
           have hns68_1 := NB476_477.out
           have hms68_0 := NB477_475.out
           have hms68_1 := NB477_476.out
           have hs69 : w58.cell? ⟨gb477, 3, none⟩ = some (.int .i64 0) := (blk_cell BK477.out 3).trans rfl
           have hfs69 := blk_frozen BK477.out 3
           have hns69_0 := NB475_477.out
           have hns69_1 := NB476_477.out
           have hms69_0 := NB477_475.out
           have hms69_1 := NB477_476.out
           have hs70 : w58.cell? ⟨gb477, 4, none⟩ = some (.int .i64 0) := (blk_cell BK477.out 4).trans rfl
           have hfs70 := blk_frozen BK477.out 4
           have hns70_0 := NB475_477.out
           have hns70_1 := NB476_477.out
           have hms70_0 := NB477_475.out
           have hms70_1 := NB477_476.out
           have hs72 : w58.cell? ⟨gb477, 5, none⟩ = some (.slice none 0 0) := (blk_cell BK477.out 5).trans rfl
           have hfs72 := blk_frozen BK477.out 5
           have hns72_0 := NB475_477.out
           have hns72_1 := NB476_477.out
           have hms72_0 := NB477_475.out
           have hms72_1 := NB477_476.out
           refine skip_ (w1 := ?_) (by rfl) rfl ?_ ?_
           rotate_left
           ·go_simp
            rfl
           refine hK.out _ _ ⟨(tcg NB475_477.out hHeld.1), (tcg NB475_477.out hHeld.2.1), (tcg NB475_477.out hHeld.2.2.1), (tcg NB475_477.out hHeld.2.2.2.1), (tcg NB475_477.out hHeld.2.2.2.2.1), (tcg NB475_477.out hHeld.2.2.2.2.2)⟩ (fun hHeld => ?_)
           clear hK K
           refine pure_ (i := 16) (N := some 6) (v := ?_) (a' := ?_) #[true, true, true, true, true, true, true, true, true, true, true, true, true, true, true, true, true] rfl rfl (any_of HT_.out (by kernel_rfl)) (fun _ _ _ h => h) (Or.inl ⟨by rfl, ?_⟩) ?_ ?_
           rotate_left
           ·intro w'
            go_simp
            with_reducible rfl
           rotate_left
           ·simp only [Act.put, List.setIfInBounds_toArray, List.set_cons_zero, List.set_cons_succ, i64_w, i32_w]
            rfl
           refine done_ (done_of HT_.out (by kernel_rfl)) ?_
           try go_wp2
           refine bodyPost_ret (results_list (rs := [.cell 4 47, .cell 5 47, .tmp 6]) rfl (by simp) (.cell gb476 47 #[.bool t484, .bool t485, .int .i64 t486, .int .i64 t487, .int .i64 t488, .slice Ao64 t489.length co64] (0, 0) _ rfl (tP BK476.out) Tryd.underlying47 rfl (by kernel_rfl) (.cell gb477 47 #[.bool t496, .bool t497, .int .i64 t498, .int .i64 t499, .int .i64 t500, .slice Ao71 t501.length co71] (0, 0) _ rfl (tP BK477.out) Tryd.underlying47 rfl (by kernel_rfl) (.tmp .nil)))) rfl ?_
           exact ⟨_, _, by first | rfl | (simp [errW_none, errW_some] <;> rfl) | (simp [*, errW_none, errW_some] <;> rfl), tSm (Kd.S_types (Kd.S_types HO491.out BK476.out (by decide)) BK477.out (by decide)), tSm (Kd.S_types (Kd.S_types HO503.out BK476.out (by decide)) BK477.out (by decide)), zb⟩
          ·rw [if_neg c49] at H
           exact absurd H (by simp)
         ·rw [if_neg c48] at H
          exact absurd H (by simp)

end Go.Proofs.YtbbboachakkgiaaDoor.G

namespace Go.Proofs.YtbbboachakkgiaaDoor.G
open Go.RowKit Go.Proofs.YtbbboachakkgiaaDoorW.PrintWords Go.Proofs.YtbbboachakkgiaaDoorW.PrintLast Go.Proofs.YtbbboachakkgiaaDoorW.PrintMore
attribute [local go_sem] max2_int min2_int max_two min_two max_three min_three max_four min_four   -- for this text's walks alone
set_option linter.unusedVariables false
set_option linter.unusedSimpArgs false

def spec_LogCut.l0 : Nat → List (S47) → Int → List (S47) → Int → Option ((List (S47)) × Bool)
 | 0, _, _, _, _ => none
 | k + 1, x0, x1, x6, x7 => if x7 < (x0.length : Int) then (if 0 ≤ x7 then ((spec_l12Last.f ((rd_T47 x0 x7).f0) ((rd_T47 x0 x7).f1) ((rd_T47 x0 x7).f2) ((rd_T47 x0 x7).f3) ((rd_T47 x0 x7).f4) ((rd_T47 x0 x7).f5)).bind fun t509 => (if t509 < x1 then ((spec_l12Batch.f k ((rd_T47 x0 x7).f0) ((rd_T47 x0 x7).f1) ((rd_T47 x0 x7).f2) ((rd_T47 x0 x7).f3) ((rd_T47 x0 x7).f4) ((rd_T47 x0 x7).f5)).bind fun bt511 => (if x6.length < 2513169434916 then (spec_LogCut.l0 k x0 x1 (x6 ++ [(⟨bt511.1, bt511.2.1, bt511.2.2.1, bt511.2.2.2.1, bt511.2.2.2.2.1, bt511.2.2.2.2.2⟩ : S47)]) (wrap64 (x7 + 1))) else (none))) else (if 0 < (((rd_T47 x0 x7).f5).length : Int) then (if ((rd_T33 ((rd_T47 x0 x7).f5) 0).f0) < x1 then ((spec_BatchCut.f k ((rd_T47 x0 x7).f0) ((rd_T47 x0 x7).f1) ((rd_T47 x0 x7).f2) ((rd_T47 x0 x7).f3) ((rd_T47 x0 x7).f4) ((rd_T47 x0 x7).f5) x1).bind fun bt525 => (if bt525.2.2.2.2.2.2.2.2.2.2.2.2 = true then (if x6.length < 2513169434916 then (spec_LogCut.l0 k x0 x1 (x6 ++ [(⟨bt525.1, bt525.2.1, bt525.2.2.1, bt525.2.2.2.1, bt525.2.2.2.2.1, bt525.2.2.2.2.2.1⟩ : S47)]) (wrap64 (x7 + 1))) else (none)) else (some ((([] : List (S47))), false)))) else (spec_LogCut.l0 k x0 x1 x6 (wrap64 (x7 + 1)))) else (none)))) else (none)) else (some (x6, true))
def spec_LogCut.f (k : Nat) (l0 : List (S47)) (a1 : Int) : Option ((List (S47)) × Bool) := (some (([] : List (S47)) : List (S47))).bind fun y504 => ((spec_LogValid.f k l0).bind fun t507 => (if t507 = true then (spec_LogCut.l0 k l0 a1 y504 0) else (some (y504, false))))
set_option maxHeartbeats 8000000 in
set_option maxRecDepth 100000 in
theorem spec_LogCut.calls (k : Nat) (A0 : Option Addr) (c0 : Nat) (l0 : List (S47)) (a1 : Int) (r1 : List (S47)) (r2 : Bool) (w : World) (hr0 : Kd.C k47 w A0 l0.length l0) (hc0 : l0.length ≤ c0) (h : spec_LogCut.f k l0 a1 = some (r1, r2)) :
  Calls Tryd.prog 13 #[.slice A0 l0.length c0, .int .i64 a1] w fun e w' => ∃ v0_ : Value, e = .returned (.tuple #[v0_, .bool r2]) ∧ Kd.R k47 47 w' w.heap.size (fun _ => True) v0_ r1 ∧ Below w.heap.size w w' := by
 have hu47 := Tryd.underlying47
 have HR0 := Aside0.mk hr0
 have HC0 := Aside0.mk hc0
 clear hr0 hc0
 have HB := Aside0.mk (Below.refl w.heap.size w)
 have H : ((some (([] : List (S47)) : List (S47))).bind fun y504 => ((spec_LogValid.f k l0).bind fun t507 => (if t507 = true then (spec_LogCut.l0 k l0 a1 y504 0) else (some (y504, false))))) = some (r1, r2) := h
 clear h
 obtain ⟨y504, hy504⟩ : ∃ y_ : List (S47), y_ = (([] : List (S47))) := ⟨_, rfl⟩
 replace H : ((spec_LogValid.f k l0).bind fun t507 => (if t507 = true then (spec_LogCut.l0 k l0 a1 y504 0) else (some (y504, false)))) = some (r1, r2) := by first | (rw [hy504]; with_reducible exact H) | (have H2_ := (Option.bind_some _ _).symm.trans H; rw [hy504]; with_reducible exact H2_) | (have H2_ := (Option.bind_some _ _).symm.trans H; with_reducible exact H2_) | with_reducible exact H | (rw [hy504]; exact H) | exact H
 have Ny504 := Aside0.mk hy504
 clear hy504
 replace H := tbe H
 obtain ⟨t507, A3, H⟩ := H
 by_cases c4 : t507 = true
 ·subst c4
  rw [if_pos rfl] at H
  have H' := Aside0.mk H
  clear H
  go_enter Tryd.func13, Tryd.ntmps13
  go_wp2_with (first | ((with_reducible refine gate_dst (N := 11) rfl ?_); refine Kd.R_lit k47 _ 47 ?hg (N := 11) ?hd (xs := ([] : List (S47))) (inner := []) (ok := fun _ => True) (okp := fun _ => True) ?hr ?hp (fun _ hk => hk) trivial (Below.refl _ _) (Nat.le_refl _) (by simp) ?_; (case hd => rfl); (case hg => rfl); (case hr => first | (go_simp; done) | (go_simp; rfl)); (case hp => exact (Reps.none _ _)); intro v505 w5 ho6 hb hg_ hnew_; clear hg_ hnew_; (first | rw [← Ny504.out] at ho6 | (simp only [Int.reduceToNat] at ho6; rw [← Ny504.out] at ho6)); have HO506 := tRl ho6 HB; replace HB := tBs HB hb; clear hb ho6) | ((with_reducible refine gate_callee (f := 38) rfl ?_); refine goesL_ (some 13) rfl rfl Tryd.func38 (by kernel_rfl) rfl #[.slice A0 l0.length c0] rfl tq ?_; (with_reducible refine (spec_LogValid.calls k _ _ l0 true _ ?side1 ?side2 A3.out).mono ?_); (case side1 => exact tC (Kd.C_below HR0.out HB.out)); (case side2 => exact HC0.out); rintro e w7 ⟨rfl, hb⟩; refine ⟨_, rfl, ?_⟩; replace HO506 := tRb HO506 hb; replace HB := tBs HB hb; (try clear hb); (try clear hb2); (try clear hk); (try clear hi)))
  go_loopg [6, 7] k (fun kq v6 v7 w' => ∃ (x6_1 : List (S47)) (x7_1 : Int), v7 = .int .i64 x7_1 ∧ Aside0 (spec_LogCut.l0 kq l0 a1 x6_1 x7_1 = some (r1, r2)) ∧ Aside0 (kq ≤ k) ∧ Aside0 (Kd.R k47 47 w' w.heap.size (fun _ => True) v6 x6_1) ∧ Aside0 (Below w.heap.size w w'))
  case atStart => exact ⟨(y504), (0), tr, H', ⟨Nat.le_refl _⟩, ⟨tR HO506.out⟩, ⟨zb⟩⟩
  case round =>
   clear H'
   try clear c4
   obtain ⟨x6_1, x7_1, rfl, HA, HK1, HO_6, HB⟩ := hrel
   cases gk with
   | zero => exact absurd HA.out (by simp [spec_LogCut.l0])
   | succ k1 =>
    have H := HA.out
    clear HA
    simp only [spec_LogCut.l0] at H
    by_cases c8 : x7_1 < (l0.length : Int)
    ·rw [if_pos c8] at H
     have c8b0 : decide (x7_1 < (l0.length : Int)) = true := decide_eq_true c8
     clear c8
     by_cases c9 : 0 ≤ x7_1
     ·rw [if_pos c9] at H
      have c9b0 : decide (0 ≤ x7_1) = true := decide_eq_true c9
      clear c9
      replace H := tbe H
      obtain ⟨t509, A10, H⟩ := H
      by_cases c11 : t509 < a1
      ·rw [if_pos c11] at H
       have c11b0 : decide (t509 < a1) = true := decide_eq_true c11
       clear c11
       replace H := tbe H
       obtain ⟨⟨t511, t512, t513, t514, t515, t516⟩, A12, H⟩ := H
       dsimp only at H
       by_cases c13 : x6_1.length < 2513169434916
       ·rw [if_pos c13] at H
        have LMc13 := Aside0.mk c13
        clear c13
        obtain ⟨y519, hy519⟩ : ∃ y_ : List (S47), y_ = (x6_1 ++ [(⟨t511, t512, t513, t514, t515, t516⟩ : S47)]) := ⟨_, rfl⟩
        replace H : (spec_LogCut.l0 k1 l0 a1 y519 (wrap64 (x7_1 + 1))) = some (r1, r2) := by first | (rw [hy519]; with_reducible exact H) | (have H2_ := (Option.bind_some _ _).symm.trans H; rw [hy519]; with_reducible exact H2_) | (have H2_ := (Option.bind_some _ _).symm.trans H; with_reducible exact H2_) | with_reducible exact H | (rw [hy519]; exact H) | exact H
        have Ny519 := Aside0.mk hy519
        clear hy519
        have H' := Aside0.mk H
        clear H
        have p508 : 0 ≤ (x7_1 : Int) := td
        have q508 : x7_1 < (l0.length : Int) := td
        obtain ⟨ad508, A508_5, c508_5, e508, hx508_0, hx508_1, hx508_2, hx508_3, hx508_4, hx508_5, hl508_5, hi508_5⟩ := at_T47 HR0.out x7_1 p508 q508
        cases e508
        replace hx508_0 := tcl HB hx508_0
        replace hx508_1 := tcl HB hx508_1
        replace hx508_2 := tcl HB hx508_2
        replace hx508_3 := tcl HB hx508_3
        replace hx508_4 := tcl HB hx508_4
        replace hx508_5 := tcl HB hx508_5
        have HR508_5 := Aside0.mk hi508_5
        have HC508_5 := Aside0.mk hl508_5
        clear hi508_5 hl508_5
        replace p508 := eq_true p508
        replace q508 := eq_true q508
        go_wp2_with (first | ((with_reducible refine gate_callee (f := 39) rfl ?_); refine goesL_ (some 26) rfl rfl Tryd.func39 (by kernel_rfl) rfl #[.agg #[.bool ((rd_T47 l0 x7_1).f0), .bool ((rd_T47 l0 x7_1).f1), .int .i64 ((rd_T47 l0 x7_1).f2), .int .i64 ((rd_T47 l0 x7_1).f3), .int .i64 ((rd_T47 l0 x7_1).f4), .slice A508_5 ((rd_T47 l0 x7_1).f5).length c508_5]] rfl tq ?_; (with_reducible refine (spec_l12Last.calls ((rd_T47 l0 x7_1).f0) ((rd_T47 l0 x7_1).f1) ((rd_T47 l0 x7_1).f2) ((rd_T47 l0 x7_1).f3) ((rd_T47 l0 x7_1).f4) _ _ ((rd_T47 l0 x7_1).f5) t509 _ ?side1 ?side2 A10.out).mono ?_); (case side1 => exact tC (Kd.C_below HR508_5.out HB.out)); (case side2 => exact HC508_5.out); rintro e w14 ⟨rfl, hb⟩; refine ⟨_, rfl, ?_⟩; replace HO_6 := tRb HO_6 hb; replace HB := tBs HB hb; (try clear hb); (try clear hb2); (try clear hk); (try clear hi); have p510 : 0 ≤ (x7_1 : Int) := td; have q510 : x7_1 < (l0.length : Int) := td; obtain ⟨ad510, A510_5, c510_5, e510, hx510_0, hx510_1, hx510_2, hx510_3, hx510_4, hx510_5, hl510_5, hi510_5⟩ := at_T47 HR0.out x7_1 p510 q510; obtain rfl : ad508 = ad510 := (by injection e510); replace hx510_0 := tcl HB hx510_0; replace hx510_1 := tcl HB hx510_1; replace hx510_2 := tcl HB hx510_2; replace hx510_3 := tcl HB hx510_3; replace hx510_4 := tcl HB hx510_4; replace hx510_5 := tcl HB hx510_5; have HR510_5 := Aside0.mk hi510_5; have HC510_5 := Aside0.mk hl510_5; clear hi510_5 hl510_5; replace p510 := eq_true p510; replace q510 := eq_true q510) | ((with_reducible refine gate_callee (f := 40) rfl ?_); refine goesL_ (some 34) rfl rfl Tryd.func40 (by kernel_rfl) rfl #[.agg #[.bool ((rd_T47 l0 x7_1).f0), .bool ((rd_T47 l0 x7_1).f1), .int .i64 ((rd_T47 l0 x7_1).f2), .int .i64 ((rd_T47 l0 x7_1).f3), .int .i64 ((rd_T47 l0 x7_1).f4), .slice A510_5 ((rd_T47 l0 x7_1).f5).length c510_5]] rfl tq ?_; (with_reducible refine (spec_l12Batch.calls k1 ((rd_T47 l0 x7_1).f0) ((rd_T47 l0 x7_1).f1) ((rd_T47 l0 x7_1).f2) ((rd_T47 l0 x7_1).f3) ((rd_T47 l0 x7_1).f4) _ _ ((rd_T47 l0 x7_1).f5) t511 t512 t513 t514 t515 t516 _ ?side1 ?side2 A12.out).mono ?_); (case side1 => exact tC (Kd.C_below HR510_5.out HB.out)); (case side2 => exact HC510_5.out); rintro e w15 ⟨v517, rfl, ho0, hb⟩; have u_v517 := tsv Tryd.prog v517 ho0; refine ⟨_, rfl, ?_⟩; replace HO_6 := Aside0.mk (Kd.R_elder' (tR HO_6.out) (Kd.S_base ho0) hb); have HO518 := tSl ho0 HB; replace HB := tBs HB hb; (try clear hb); (try clear hb2); (try clear hk); (try clear hi); (try clear ho0); obtain ⟨Ao17, co17, eo17⟩ := Kd.S_slice HO518.out; subst eo17) | ((with_reducible refine gate_builtin (b := .append) (xs := #[.tmp 29, .tmp 35]) rfl ?_); at_builtin; refine Kd.R_append k47 (w0 := w) w.heap.size rfl (.tmp 29) (.tmp 35) 23 47 (.agg #[(.bool false), (.bool false), (.int .i64 0), (.int .i64 0), (.int .i64 0), (.slice none 0 0)]) 56 rfl Tryd.underlying23 info47 rfl (by decide) (by omega) u6 x6_1 (⟨t511, t512, t513, t514, t515, t516⟩ : S47) [.bool t511, .bool t512, .int .i64 t513, .int .i64 t514, .int .i64 t515, .slice Ao17 t516.length co17] (fun _ => True) (fun k_ => ((fun _ => True)) k_ ∧ some k_ ≠ (u6 : Value).ownBlock) rfl rfl ?aP (fun _ hk => hk) ?aF ?aO ?aB ?aS ?aL ?_; (case aP => exact k47_mkM _ _ _ (⟨t511, t512, t513, t514, t515, t516⟩ : S47) (Kd.R_mono (Kd.R_apart' ((Kd.S_R HO518.out)) (Kd.R_typed HO_6.out) (by decide)) (fun k_ hk => ⟨trivial, hk.2⟩))); (case aB => exact zb); (case aF => exact (fun _ _ => trivial)); (case aO => exact (tRm HO_6.out)); (case aS => exact (below_size zb)); (case aL => have := LMc13.out; omega); intro v520 w16 ho hb hg hat; rw [← Ny519.out] at ho; replace HB := Aside0.mk (hb); have HO521 := Aside0.mk (ho); clear HO_6 HO518; clear ho hb hg hat))
        go_roundg k1
        case measure => have := HK1.out; omega
        case rel => exact ⟨(y519), (wrap64 (x7_1 + 1)), tr, H', ⟨by have := HK1.out; omega⟩, ⟨tR HO521.out⟩, ⟨zb⟩⟩
       ·rw [if_neg c13] at H
        exact absurd H (by simp)
      ·rw [if_neg c11] at H
       have c11b0 : decide (t509 < a1) = false := decide_eq_false c11
       clear c11
       by_cases c18 : 0 < (((rd_T47 l0 x7_1).f5).length : Int)
       ·rw [if_pos c18] at H
        have c18b0 : decide (0 < (((rd_T47 l0 x7_1).f5).length : Int)) = true := decide_eq_true c18
        have c18b1 : decide (0 < ((rd_T47 l0 x7_1).f5).length) = true := decide_eq_true (by omega)
        clear c18
        by_cases c19 : ((rd_T33 ((rd_T47 l0 x7_1).f5) 0).f0) < a1
        ·rw [if_pos c19] at H
         have c19b0 : decide (((rd_T33 ((rd_T47 l0 x7_1).f5) 0).f0) < a1) = true := decide_eq_true c19
         clear c19
         replace H := tbe H
         obtain ⟨⟨t525, t526, t527, t528, t529, t530, t533, t534, t535, t536, t537, t538, t541⟩, A20, H⟩ := H
         dsimp only at H
         by_cases c21 : t541 = true
         ·subst c21
          rw [if_pos rfl] at H
          by_cases c22 : x6_1.length < 2513169434916
          ·rw [if_pos c22] at H
           have LMc22 := Aside0.mk c22
           clear c22
           obtain ⟨y544, hy544⟩ : ∃ y_ : List (S47), y_ = (x6_1 ++ [(⟨t525, t526, t527, t528, t529, t530⟩ : S47)]) := ⟨_, rfl⟩
           replace H : (spec_LogCut.l0 k1 l0 a1 y544 (wrap64 (x7_1 + 1))) = some (r1, r2) := by first | (rw [hy544]; with_reducible exact H) | (have H2_ := (Option.bind_some _ _).symm.trans H; rw [hy544]; with_reducible exact H2_) | (have H2_ := (Option.bind_some _ _).symm.trans H; with_reducible exact H2_) | with_reducible exact H | (rw [hy544]; exact H) | exact H
           have Ny544 := Aside0.mk hy544
           clear hy544
           have H' := Aside0.mk H
           clear H
           have p508 : 0 ≤ (x7_1 : Int) := td
           have q508 : x7_1 < (l0.length : Int) := td
           obtain ⟨ad508, A508_5, c508_5, e508, hx508_0, hx508_1, hx508_2, hx508_3, hx508_4, hx508_5, hl508_5, hi508_5⟩ := at_T47 HR0.out x7_1 p508 q508
           cases e508
           replace hx508_0 := tcl HB hx508_0
           replace hx508_1 := tcl HB hx508_1
           replace hx508_2 := tcl HB hx508_2
           replace hx508_3 := tcl HB hx508_3
           replace hx508_4 := tcl HB hx508_4
           replace hx508_5 := tcl HB hx508_5
           have HR508_5 := Aside0.mk hi508_5
           have HC508_5 := Aside0.mk hl508_5
           clear hi508_5 hl508_5
           replace p508 := eq_true p508
           replace q508 := eq_true q508
           go_wp2_with (first | ((with_reducible refine gate_callee (f := 39) rfl ?_); refine goesL_ (some 26) rfl rfl Tryd.func39 (by kernel_rfl) rfl #[.agg #[.bool ((rd_T47 l0 x7_1).f0), .bool ((rd_T47 l0 x7_1).f1), .int .i64 ((rd_T47 l0 x7_1).f2), .int .i64 ((rd_T47 l0 x7_1).f3), .int .i64 ((rd_T47 l0 x7_1).f4), .slice A508_5 ((rd_T47 l0 x7_1).f5).length c508_5]] rfl tq ?_; (with_reducible refine (spec_l12Last.calls ((rd_T47 l0 x7_1).f0) ((rd_T47 l0 x7_1).f1) ((rd_T47 l0 x7_1).f2) ((rd_T47 l0 x7_1).f3) ((rd_T47 l0 x7_1).f4) _ _ ((rd_T47 l0 x7_1).f5) t509 _ ?side1 ?side2 A10.out).mono ?_); (case side1 => exact tC (Kd.C_below HR508_5.out HB.out)); (case side2 => exact HC508_5.out); rintro e w23 ⟨rfl, hb⟩; refine ⟨_, rfl, ?_⟩; replace HO_6 := tRb HO_6 hb; replace HB := tBs HB hb; (try clear hb); (try clear hb2); (try clear hk); (try clear hi); have p522 : 0 ≤ (x7_1 : Int) := td; have q522 : x7_1 < (l0.length : Int) := td; obtain ⟨ad522, A522_5, c522_5, e522, hx522_0, hx522_1, hx522_2, hx522_3, hx522_4, hx522_5, hl522_5, hi522_5⟩ := at_T47 HR0.out x7_1 p522 q522; obtain rfl : ad508 = ad522 := (by injection e522); replace hx522_0 := tcl HB hx522_0; replace hx522_1 := tcl HB hx522_1; replace hx522_2 := tcl HB hx522_2; replace hx522_3 := tcl HB hx522_3; replace hx522_4 := tcl HB hx522_4; replace hx522_5 := tcl HB hx522_5; have HR522_5 := Aside0.mk hi522_5; have HC522_5 := Aside0.mk hl522_5; clear hi522_5 hl522_5; replace p522 := eq_true p522; replace q522 := eq_true q522; have p523 : 0 ≤ (0 : Int) := (by omega); have q523 : 0 < (((rd_T47 l0 x7_1).f5).length : Int) := td; obtain ⟨ad523, A523_3, c523_3, A523_5, c523_5, e523, hx523_0, hx523_1, hx523_2, hx523_3, hx523_4, hx523_5, hl523_3, hi523_3, hl523_5, hi523_5⟩ := at_T33 HR522_5.out 0 p523 q523; cases e523; have qi523 : (0 < ((rd_T47 l0 x7_1).f5).length) = True := eq_true (by omega); (try rw [show ((0 : Int)).toNat = 0 from rfl] at hx523_0); (try rw [show 0 * 6 = 0 from rfl] at hx523_0); (try rw [Addr.add_zero'] at hx523_0); (try rw [show ((0 : Int)).toNat = 0 from rfl] at hx523_1); (try rw [show 0 * 6 = 0 from rfl] at hx523_1); (try rw [Addr.add_zero'] at hx523_1); (try rw [show ((0 : Int)).toNat = 0 from rfl] at hx523_2); (try rw [show 0 * 6 = 0 from rfl] at hx523_2); (try rw [Addr.add_zero'] at hx523_2); (try rw [show ((0 : Int)).toNat = 0 from rfl] at hx523_3); (try rw [show 0 * 6 = 0 from rfl] at hx523_3); (try rw [Addr.add_zero'] at hx523_3); (try rw [show ((0 : Int)).toNat = 0 from rfl] at hx523_4); (try rw [show 0 * 6 = 0 from rfl] at hx523_4); (try rw [Addr.add_zero'] at hx523_4); (try rw [show ((0 : Int)).toNat = 0 from rfl] at hx523_5); (try rw [show 0 * 6 = 0 from rfl] at hx523_5); (try rw [Addr.add_zero'] at hx523_5); replace hx523_0 := tcl HB hx523_0; replace hx523_1 := tcl HB hx523_1; replace hx523_2 := tcl HB hx523_2; replace hx523_3 := tcl HB hx523_3; replace hx523_4 := tcl HB hx523_4; replace hx523_5 := tcl HB hx523_5; have HR523_3 := Aside0.mk hi523_3; have HC523_3 := Aside0.mk hl523_3; clear hi523_3 hl523_3; have HR523_5 := Aside0.mk hi523_5; have HC523_5 := Aside0.mk hl523_5; clear hi523_5 hl523_5; replace p523 := eq_true p523; replace q523 := eq_true q523; have p524 : 0 ≤ (x7_1 : Int) := td; have q524 : x7_1 < (l0.length : Int) := td; obtain ⟨ad524, A524_5, c524_5, e524, hx524_0, hx524_1, hx524_2, hx524_3, hx524_4, hx524_5, hl524_5, hi524_5⟩ := at_T47 HR0.out x7_1 p524 q524; obtain rfl : ad508 = ad524 := (by injection e524); replace hx524_0 := tcl HB hx524_0; replace hx524_1 := tcl HB hx524_1; replace hx524_2 := tcl HB hx524_2; replace hx524_3 := tcl HB hx524_3; replace hx524_4 := tcl HB hx524_4; replace hx524_5 := tcl HB hx524_5; have HR524_5 := Aside0.mk hi524_5; have HC524_5 := Aside0.mk hl524_5; clear hi524_5 hl524_5; replace p524 := eq_true p524; replace q524 := eq_true q524; have ea_ := Option.some.inj (hx522_5.symm.trans hx524_5); injection ea_ with ea_ en_ ec_; subst ea_; subst ec_; clear en_) | ((with_reducible refine gate_callee (f := 41) rfl ?_); refine goesL_ (some 53) rfl rfl Tryd.func41 (by kernel_rfl) rfl #[.agg #[.bool ((rd_T47 l0 x7_1).f0), .bool ((rd_T47 l0 x7_1).f1), .int .i64 ((rd_T47 l0 x7_1).f2), .int .i64 ((rd_T47 l0 x7_1).f3), .int .i64 ((rd_T47 l0 x7_1).f4), .slice (some ad523) ((rd_T47 l0 x7_1).f5).length c522_5], .int .i64 a1] rfl tq ?_; (with_reducible refine (spec_BatchCut.calls k1 ((rd_T47 l0 x7_1).f0) ((rd_T47 l0 x7_1).f1) ((rd_T47 l0 x7_1).f2) ((rd_T47 l0 x7_1).f3) ((rd_T47 l0 x7_1).f4) _ _ ((rd_T47 l0 x7_1).f5) a1 t525 t526 t527 t528 t529 t530 t533 t534 t535 t536 t537 t538 true _ ?side1 ?side2 A20.out).mono ?_); (case side1 => exact tC (Kd.C_below HR524_5.out HB.out)); (case side2 => exact HC524_5.out); rintro e w24 ⟨v531, v539, rfl, ho0, ho1, hb⟩; have u_v531 := tsv Tryd.prog v531 ho0; have u_v539 := tsv Tryd.prog v539 ho1; refine ⟨_, rfl, ?_⟩; replace HO_6 := Aside0.mk (Kd.R_mono (Kd.R_told (Kd.R_told (Kd.R_old (tR HO_6.out) hb) (Kd.S_base ho0)) (Kd.S_base ho1)) (fun _ h_ => h_.1)); have HO532 := tSl ho0 HB; have HO540 := tSl ho1 HB; replace HB := tBs HB hb; (try clear hb); (try clear hb2); (try clear hk); (try clear hi); (try clear ho0); (try clear ho1)) | ((with_reducible refine gate_dst (N := 8) rfl ?_); refine box_event ?hg (N := 8) ?hd (cs := #[.bool false, .bool false, .int .i64 0, .int .i64 0, .int .i64 0, .slice none 0 0]) (t := 47) ?hr ?_; (case hd => rfl); (case hg => rfl); (case hr => first | (go_simp; done) | (go_simp; rfl)); intro gb542 hg w25 hbox hb; replace HO_6 := tRB HO_6 hg hb; replace HO532 := tSb HO532 hb; replace HO540 := tSb HO540 hb; have BK542 := Aside0.mk (hbox); have GW542 := tge HB hg; have GE542 := tge HB hg; replace HB := tBs HB hb; clear hb hbox hg) | ((with_reducible refine gate_dst (N := 9) rfl ?_); refine box_event ?hg (N := 9) ?hd (cs := #[.bool false, .bool false, .int .i64 0, .int .i64 0, .int .i64 0, .slice none 0 0]) (t := 47) ?hr ?_; (case hd => rfl); (case hg => rfl); (case hr => first | (go_simp; done) | (go_simp; rfl)); intro gb543 hg w26 hbox hb; replace HO_6 := tRB HO_6 hg hb; replace HO532 := tSb HO532 hb; replace HO540 := tSb HO540 hb; have BK543 := Aside0.mk (hbox); have GW543 := tge HB hg; have GE543 := tge HB hg; replace HB := tBs HB hb; have NB542_543 := tlt BK542 hg; have NB543_542 := tgt BK542 hg; replace BK542 := tBb BK542 hb; clear hb hbox hg; have hnb27 := NB542_543.out; have hnc27 := NB543_542.out; obtain ⟨hcz28_0, hcz28_1, hcz28_2, hcz28_3, hcz28_4, hcz28_5, hfz28_0, hfz28_1, hfz28_2, hfz28_3, hfz28_4, hfz28_5⟩ := cells6 BK542.out; obtain ⟨Ao29, co29, eo29⟩ := Kd.S_slice HO532.out; subst eo29) | ((with_reducible refine gate_store (t := 47) (p := 8) rfl ?_); refine store_event (t := 47) (p := 8) (v := ?vo_w30) (w1 := ((((((w26.setCell ⟨gb542, 0, none⟩ (.bool t525)).setCell ⟨gb542, 1, none⟩ (.bool t526)).setCell ⟨gb542, 2, none⟩ (.int .i64 t527)).setCell ⟨gb542, 3, none⟩ (.int .i64 t528)).setCell ⟨gb542, 4, none⟩ (.int .i64 t529)).setCell ⟨gb542, 5, none⟩ (.slice Ao29 t530.length co29))) ?hg ?ho ?hn ?hr ?_; (case ho => rfl); (case hg => rfl); (case hn => rfl); (case hr => first | (go_simp; done) | (go_simp; rfl)); intro w30 hw; have n0_ : Aside0 (Kd.R k47 47 w30 w.heap.size (fun k_ => some k_ ≠ (.slice Ao29 t530.length co29 : Value).ownBlock ∧ some k_ ≠ (v539 : Value).ownBlock ∧ k_ ≠ gb542 ∧ k_ ≠ gb543) u6 x6_1) := ⟨(by rw [hw]; exact (tRm HO_6.out))⟩; have n1_ : Aside0 (Kd.S k33 33 w30 w.heap.size (fun k_ => some k_ ≠ (v539 : Value).ownBlock) (.slice Ao29 t530.length co29) t530) := ⟨(by rw [hw]; exact (tSm (Kd.S_types HO532.out BK542.out (by decide))))⟩; have n2_ : Aside0 (Kd.S k33 33 w30 w.heap.size (fun k_ => some k_ ≠ (.slice Ao29 t530.length co29 : Value).ownBlock) v539 t538) := ⟨(by rw [hw]; exact (tSm (Kd.S_types HO540.out BK542.out (by decide))))⟩; have n3_ : Aside0 (w30.heap[gb542]? = some (.cells #[.bool t525, .bool t526, .int .i64 t527, .int .i64 t528, .int .i64 t529, .slice Ao29 t530.length co29] 47 (0, 0))) := ⟨(by rw [hw]; exact (tP BK542.out))⟩; have n4_ : Aside0 (w30.heap[gb543]? = some (.cells #[.bool false, .bool false, .int .i64 0, .int .i64 0, .int .i64 0, .slice none 0 0] 47 (0, 0))) := ⟨(by rw [hw]; exact (tH BK543.out))⟩; have n5_ : Aside0 (Below w.heap.size w w30) := ⟨(by rw [hw]; exact zb)⟩; clear hw; clear HO_6; clear HO532; clear HO540; clear BK542; clear BK543; clear HB; have HO_6 := n0_; have HO532 := n1_; have HO540 := n2_; have BK542 := n3_; have BK543 := n4_; have HB := n5_; clear n0_ n1_ n2_ n3_ n4_ n5_; obtain ⟨hcz31_0, hcz31_1, hcz31_2, hcz31_3, hcz31_4, hcz31_5, hfz31_0, hfz31_1, hfz31_2, hfz31_3, hfz31_4, hfz31_5⟩ := cells6 BK543.out; obtain ⟨Ao32, co32, eo32⟩ := Kd.S_slice HO540.out; subst eo32) | ((with_reducible refine gate_store (t := 47) (p := 9) rfl ?_); refine store_event (t := 47) (p := 9) (v := ?vo_w33) (w1 := ((((((w30.setCell ⟨gb543, 0, none⟩ (.bool t533)).setCell ⟨gb543, 1, none⟩ (.bool t534)).setCell ⟨gb543, 2, none⟩ (.int .i64 t535)).setCell ⟨gb543, 3, none⟩ (.int .i64 t536)).setCell ⟨gb543, 4, none⟩ (.int .i64 t537)).setCell ⟨gb543, 5, none⟩ (.slice Ao32 t538.length co32))) ?hg ?ho ?hn ?hr ?_; (case ho => rfl); (case hg => rfl); (case hn => rfl); (case hr => first | (go_simp; done) | (go_simp; rfl)); intro w33 hw; have n0_ : Aside0 (Kd.R k47 47 w33 w.heap.size (fun k_ => some k_ ≠ (.slice Ao29 t530.length co29 : Value).ownBlock ∧ some k_ ≠ (.slice Ao32 t538.length co32 : Value).ownBlock ∧ k_ ≠ gb542 ∧ k_ ≠ gb543) u6 x6_1) := ⟨(by rw [hw]; exact (tRm HO_6.out))⟩; have n1_ : Aside0 (Kd.S k33 33 w33 w.heap.size (fun k_ => some k_ ≠ (.slice Ao32 t538.length co32 : Value).ownBlock) (.slice Ao29 t530.length co29) t530) := ⟨(by rw [hw]; exact (tSm (Kd.S_types HO532.out BK543.out (by decide))))⟩; have n2_ : Aside0 (Kd.S k33 33 w33 w.heap.size (fun k_ => some k_ ≠ (.slice Ao29 t530.length co29 : Value).ownBlock) (.slice Ao32 t538.length co32) t538) := ⟨(by rw [hw]; exact (tSm (Kd.S_types HO540.out BK543.out (by decide))))⟩; have n3_ : Aside0 (w33.heap[gb542]? = some (.cells #[.bool t525, .bool t526, .int .i64 t527, .int .i64 t528, .int .i64 t529, .slice Ao29 t530.length co29] 47 (0, 0))) := ⟨(by rw [hw]; exact (tH BK542.out))⟩; have n4_ : Aside0 (w33.heap[gb543]? = some (.cells #[.bool t533, .bool t534, .int .i64 t535, .int .i64 t536, .int .i64 t537, .slice Ao32 t538.length co32] 47 (0, 0))) := ⟨(by rw [hw]; exact (tP BK543.out))⟩; have n5_ : Aside0 (Below w.heap.size w w33) := ⟨(by rw [hw]; exact zb)⟩; clear hw; clear HO_6; clear HO532; clear HO540; clear BK542; clear BK543; clear HB; have HO_6 := n0_; have HO532 := n1_; have HO540 := n2_; have BK542 := n3_; have BK543 := n4_; have HB := n5_; clear n0_ n1_ n2_ n3_ n4_ n5_; obtain ⟨hcz34_0, hcz34_1, hcz34_2, hcz34_3, hcz34_4, hcz34_5, hfz34_0, hfz34_1, hfz34_2, hfz34_3, hfz34_4, hfz34_5⟩ := cells6 BK542.out) | ((with_reducible refine gate_builtin (b := .append) (xs := #[.tmp 60, .tmp 62]) rfl ?_); at_builtin; refine Kd.R_append k47 (w0 := w) w.heap.size rfl (.tmp 60) (.tmp 62) 23 47 (.agg #[(.bool false), (.bool false), (.int .i64 0), (.int .i64 0), (.int .i64 0), (.slice none 0 0)]) 56 rfl Tryd.underlying23 info47 rfl (by decide) (by omega) u6 x6_1 (⟨t525, t526, t527, t528, t529, t530⟩ : S47) [.bool t525, .bool t526, .int .i64 t527, .int .i64 t528, .int .i64 t529, .slice Ao29 t530.length co29] (fun k_ => some k_ ≠ (.slice Ao32 t538.length co32 : Value).ownBlock ∧ k_ ≠ gb542 ∧ k_ ≠ gb543) (fun k_ => ((fun k_ => some k_ ≠ (.slice Ao32 t538.length co32 : Value).ownBlock ∧ k_ ≠ gb542 ∧ k_ ≠ gb543)) k_ ∧ some k_ ≠ (u6 : Value).ownBlock) rfl rfl ?aP (fun _ hk => hk) ?aF ?aO ?aB ?aS ?aL ?_; (case aP => exact k47_mkM _ _ _ (⟨t525, t526, t527, t528, t529, t530⟩ : S47) (Kd.R_mono (Kd.R_types (Kd.R_types (Kd.R_apart' ((Kd.S_R HO532.out)) (Kd.R_typed HO_6.out) (by decide)) BK542.out (by decide)) BK543.out (by decide)) (fun k_ hk => ⟨⟨hk.1.1.1, ⟨hk.1.2, hk.2⟩⟩, hk.1.1.2⟩))); (case aB => exact zb); (case aF => exact (fun k_ hk => ⟨Kd.fresh' (Kd.S_lt (tS HO540.out)) k_ hk, tfB BK542 k_ hk, tfB BK543 k_ hk⟩)); (case aO => exact (tRm HO_6.out)); (case aS => exact (below_size zb)); (case aL => have := LMc22.out; omega); intro v545 w35 ho hb hg hat; rw [← Ny544.out] at ho; replace HO540 := Aside0.mk (Kd.S_over' (tS HO540.out) (Kd.R_typed (tR HO_6.out)) (by decide) hg); replace BK542 := Aside0.mk (blk_grown (tH BK542.out) hg (Kd.R_away HO_6.out (fun _ hk => hk.2.2.1))); replace BK543 := Aside0.mk (blk_grown (tH BK543.out) hg (Kd.R_away HO_6.out (fun _ hk => hk.2.2.2))); replace HB := Aside0.mk (hb); have HO546 := Aside0.mk (ho); clear HO_6 HO532; clear ho hb hg hat))
           go_roundg k1
           case measure => have := HK1.out; omega
           case rel => exact ⟨(y544), (wrap64 (x7_1 + 1)), tr, H', ⟨by have := HK1.out; omega⟩, ⟨tRm HO546.out⟩, ⟨zb⟩⟩
          ·rw [if_neg c22] at H
           exact absurd H (by simp)
         ·replace c21 := Bool.eq_false_iff.mpr c21
          subst c21
          rw [if_neg (show ¬ (false = true) by decide)] at H
          obtain ⟨y547, hy547⟩ : ∃ y_ : List (S47), y_ = (([] : List (S47))) := ⟨_, rfl⟩
          replace H : (some (y547, false)) = some (r1, r2) := by first | (rw [hy547]; with_reducible exact H) | (have H2_ := (Option.bind_some _ _).symm.trans H; rw [hy547]; with_reducible exact H2_) | (have H2_ := (Option.bind_some _ _).symm.trans H; with_reducible exact H2_) | with_reducible exact H | (rw [hy547]; exact H) | exact H
          have Ny547 := Aside0.mk hy547
          clear hy547
          simp only [Option.some.injEq, Prod.mk.injEq] at H
          obtain ⟨rfl, rfl⟩ := H
          have p508 : 0 ≤ (x7_1 : Int) := td
          have q508 : x7_1 < (l0.length : Int) := td
          obtain ⟨ad508, A508_5, c508_5, e508, hx508_0, hx508_1, hx508_2, hx508_3, hx508_4, hx508_5, hl508_5, hi508_5⟩ := at_T47 HR0.out x7_1 p508 q508
          cases e508
          replace hx508_0 := tcl HB hx508_0
          replace hx508_1 := tcl HB hx508_1
          replace hx508_2 := tcl HB hx508_2
          replace hx508_3 := tcl HB hx508_3
          replace hx508_4 := tcl HB hx508_4
          replace hx508_5 := tcl HB hx508_5
          have HR508_5 := Aside0.mk hi508_5
          have HC508_5 := Aside0.mk hl508_5
          clear hi508_5 hl508_5
          replace p508 := eq_true p508
          replace q508 := eq_true q508
          go_wp2_with (first | ((with_reducible refine gate_callee (f := 39) rfl ?_); refine goesL_ (some 26) rfl rfl Tryd.func39 (by kernel_rfl) rfl #[.agg #[.bool ((rd_T47 l0 x7_1).f0), .bool ((rd_T47 l0 x7_1).f1), .int .i64 ((rd_T47 l0 x7_1).f2), .int .i64 ((rd_T47 l0 x7_1).f3), .int .i64 ((rd_T47 l0 x7_1).f4), .slice A508_5 ((rd_T47 l0 x7_1).f5).length c508_5]] rfl tq ?_; (with_reducible refine (spec_l12Last.calls ((rd_T47 l0 x7_1).f0) ((rd_T47 l0 x7_1).f1) ((rd_T47 l0 x7_1).f2) ((rd_T47 l0 x7_1).f3) ((rd_T47 l0 x7_1).f4) _ _ ((rd_T47 l0 x7_1).f5) t509 _ ?side1 ?side2 A10.out).mono ?_); (case side1 => exact tC (Kd.C_below HR508_5.out HB.out)); (case side2 => exact HC508_5.out); rintro e w36 ⟨rfl, hb⟩; refine ⟨_, rfl, ?_⟩; replace HO_6 := tRb HO_6 hb; replace HB := tBs HB hb; (try clear hb); (try clear hb2); (try clear hk); (try clear hi); have p522 : 0 ≤ (x7_1 : Int) := td; have q522 : x7_1 < (l0.length : Int) := td; obtain ⟨ad522, A522_5, c522_5, e522, hx522_0, hx522_1, hx522_2, hx522_3, hx522_4, hx522_5, hl522_5, hi522_5⟩ := at_T47 HR0.out x7_1 p522 q522; obtain rfl : ad508 = ad522 := (by injection e522); replace hx522_0 := tcl HB hx522_0; replace hx522_1 := tcl HB hx522_1; replace hx522_2 := tcl HB hx522_2; replace hx522_3 := tcl HB hx522_3; replace hx522_4 := tcl HB hx522_4; replace hx522_5 := tcl HB hx522_5; have HR522_5 := Aside0.mk hi522_5; have HC522_5 := Aside0.mk hl522_5; clear hi522_5 hl522_5; replace p522 := eq_true p522; replace q522 := eq_true q522; have p523 : 0 ≤ (0 : Int) := (by omega); have q523 : 0 < (((rd_T47 l0 x7_1).f5).length : Int) := td; obtain ⟨ad523, A523_3, c523_3, A523_5, c523_5, e523, hx523_0, hx523_1, hx523_2, hx523_3, hx523_4, hx523_5, hl523_3, hi523_3, hl523_5, hi523_5⟩ := at_T33 HR522_5.out 0 p523 q523; cases e523; have qi523 : (0 < ((rd_T47 l0 x7_1).f5).length) = True := eq_true (by omega); (try rw [show ((0 : Int)).toNat = 0 from rfl] at hx523_0); (try rw [show 0 * 6 = 0 from rfl] at hx523_0); (try rw [Addr.add_zero'] at hx523_0); (try rw [show ((0 : Int)).toNat = 0 from rfl] at hx523_1); (try rw [show 0 * 6 = 0 from rfl] at hx523_1); (try rw [Addr.add_zero'] at hx523_1); (try rw [show ((0 : Int)).toNat = 0 from rfl] at hx523_2); (try rw [show 0 * 6 = 0 from rfl] at hx523_2); (try rw [Addr.add_zero'] at hx523_2); (try rw [show ((0 : Int)).toNat = 0 from rfl] at hx523_3); (try rw [show 0 * 6 = 0 from rfl] at hx523_3); (try rw [Addr.add_zero'] at hx523_3); (try rw [show ((0 : Int)).toNat = 0 from rfl] at hx523_4); (try rw [show 0 * 6 = 0 from rfl] at hx523_4); (try rw [Addr.add_zero'] at hx523_4); (try rw [show ((0 : Int)).toNat = 0 from rfl] at hx523_5); (try rw [show 0 * 6 = 0 from rfl] at hx523_5); (try rw [Addr.add_zero'] at hx523_5); replace hx523_0 := tcl HB hx523_0; replace hx523_1 := tcl HB hx523_1; replace hx523_2 := tcl HB hx523_2; replace hx523_3 := tcl HB hx523_3; replace hx523_4 := tcl HB hx523_4; replace hx523_5 := tcl HB hx523_5; have HR523_3 := Aside0.mk hi523_3; have HC523_3 := Aside0.mk hl523_3; clear hi523_3 hl523_3; have HR523_5 := Aside0.mk hi523_5; have HC523_5 := Aside0.mk hl523_5; clear hi523_5 hl523_5; replace p523 := eq_true p523; replace q523 := eq_true q523; have p524 : 0 ≤ (x7_1 : Int) := td; have q524 : x7_1 < (l0.length : Int) := td; obtain ⟨ad524, A524_5, c524_5, e524, hx524_0, hx524_1, hx524_2, hx524_3, hx524_4, hx524_5, hl524_5, hi524_5⟩ := at_T47 HR0.out x7_1 p524 q524; obtain rfl : ad508 = ad524 := (by injection e524); replace hx524_0 := tcl HB hx524_0; replace hx524_1 := tcl HB hx524_1; replace hx524_2 := tcl HB hx524_2; replace hx524_3 := tcl HB hx524_3; replace hx524_4 := tcl HB hx524_4; replace hx524_5 := tcl HB hx524_5; have HR524_5 := Aside0.mk hi524_5; have HC524_5 := Aside0.mk hl524_5; clear hi524_5 hl524_5; replace p524 := eq_true p524; replace q524 := eq_true q524; have ea_ := Option.some.inj (hx522_5.symm.trans hx524_5); injection ea_ with ea_ en_ ec_; subst ea_; subst ec_; clear en_) | ((with_reducible refine gate_callee (f := 41) rfl ?_); refine goesL_ (some 53) rfl rfl Tryd.func41 (by kernel_rfl) rfl #[.agg #[.bool ((rd_T47 l0 x7_1).f0), .bool ((rd_T47 l0 x7_1).f1), .int .i64 ((rd_T47 l0 x7_1).f2), .int .i64 ((rd_T47 l0 x7_1).f3), .int .i64 ((rd_T47 l0 x7_1).f4), .slice (some ad523) ((rd_T47 l0 x7_1).f5).length c522_5], .int .i64 a1] rfl tq ?_; (with_reducible refine (spec_BatchCut.calls k1 ((rd_T47 l0 x7_1).f0) ((rd_T47 l0 x7_1).f1) ((rd_T47 l0 x7_1).f2) ((rd_T47 l0 x7_1).f3) ((rd_T47 l0 x7_1).f4) _ _ ((rd_T47 l0 x7_1).f5) a1 t525 t526 t527 t528 t529 t530 t533 t534 t535 t536 t537 t538 false _ ?side1 ?side2 A20.out).mono ?_); (case side1 => exact tC (Kd.C_below HR524_5.out HB.out)); (case side2 => exact HC524_5.out); rintro e w37 ⟨v531, v539, rfl, ho0, ho1, hb⟩; have u_v531 := tsv Tryd.prog v531 ho0; have u_v539 := tsv Tryd.prog v539 ho1; refine ⟨_, rfl, ?_⟩; replace HO_6 := Aside0.mk (Kd.R_mono (Kd.R_told (Kd.R_told (Kd.R_old (tR HO_6.out) hb) (Kd.S_base ho0)) (Kd.S_base ho1)) (fun _ h_ => h_.1)); have HO532 := tSl ho0 HB; have HO540 := tSl ho1 HB; replace HB := tBs HB hb; (try clear hb); (try clear hb2); (try clear hk); (try clear hi); (try clear ho0); (try clear ho1)) | ((with_reducible refine gate_dst (N := 8) rfl ?_); refine box_event ?hg (N := 8) ?hd (cs := #[.bool false, .bool false, .int .i64 0, .int .i64 0, .int .i64 0, .slice none 0 0]) (t := 47) ?hr ?_; (case hd => rfl); (case hg => rfl); (case hr => first | (go_simp; done) | (go_simp; rfl)); intro gb542 hg w38 hbox hb; replace HO_6 := tRB HO_6 hg hb; replace HO532 := tSb HO532 hb; replace HO540 := tSb HO540 hb; have BK542 := Aside0.mk (hbox); have GW542 := tge HB hg; have GE542 := tge HB hg; replace HB := tBs HB hb; clear hb hbox hg) | ((with_reducible refine gate_dst (N := 9) rfl ?_); refine box_event ?hg (N := 9) ?hd (cs := #[.bool false, .bool false, .int .i64 0, .int .i64 0, .int .i64 0, .slice none 0 0]) (t := 47) ?hr ?_; (case hd => rfl); (case hg => rfl); (case hr => first | (go_simp; done) | (go_simp; rfl)); intro gb543 hg w39 hbox hb; replace HO_6 := tRB HO_6 hg hb; replace HO532 := tSb HO532 hb; replace HO540 := tSb HO540 hb; have BK543 := Aside0.mk (hbox); have GW543 := tge HB hg; have GE543 := tge HB hg; replace HB := tBs HB hb; have NB542_543 := tlt BK542 hg; have NB543_542 := tgt BK542 hg; replace BK542 := tBb BK542 hb; clear hb hbox hg; have hnb40 := NB542_543.out; have hnc40 := NB543_542.out; obtain ⟨hcz41_0, hcz41_1, hcz41_2, hcz41_3, hcz41_4, hcz41_5, hfz41_0, hfz41_1, hfz41_2, hfz41_3, hfz41_4, hfz41_5⟩ := cells6 BK542.out; obtain ⟨Ao42, co42, eo42⟩ := Kd.S_slice HO532.out; subst eo42; obtain ⟨hcz43_0, hcz43_1, hcz43_2, hcz43_3, hcz43_4, hcz43_5, hfz43_0, hfz43_1, hfz43_2, hfz43_3, hfz43_4, hfz43_5⟩ := cells6 BK543.out; obtain ⟨Ao44, co44, eo44⟩ := Kd.S_slice HO540.out; subst eo44) | ((with_reducible refine gate_dst (N := 59) rfl ?_); refine Kd.R_lit k47 _ 47 ?hg (N := 59) ?hd (xs := ([] : List (S47))) (inner := []) (ok := fun _ => True) (okp := fun _ => True) ?hr ?hp (fun _ hk => hk) trivial (Below.refl _ _) (Nat.le_refl _) (by simp) ?_; (case hd => rfl); (case hg => rfl); (case hr => first | (go_simp; done) | (go_simp; rfl)); (case hp => exact (Reps.none _ _)); intro v548 w45 ho46 hb hg_ hnew_; clear hg_ hnew_; (first | rw [← Ny547.out] at ho46 | (simp only [Int.reduceToNat] at ho46; rw [← Ny547.out] at ho46)); have HO549 := Aside0.mk (Kd.R_lower (Kd.R_newB (Kd.R_newB (Kd.R_new' (Kd.R_new' (Kd.R_new' ho46 (Kd.R_lt (by (with_reducible repeat (first | apply Kd.R_alloc | apply Kd.R_drewN | apply Kd.R_drew)); exact (Kd.R_mono (Kd.R_mono (Kd.R_far (p := ⟨gb543, 5, none⟩) (Kd.R_far (p := ⟨gb543, 4, none⟩) (Kd.R_far (p := ⟨gb543, 3, none⟩) (Kd.R_far (p := ⟨gb543, 2, none⟩) (Kd.R_far (p := ⟨gb543, 1, none⟩) (Kd.R_far (p := ⟨gb543, 0, none⟩) (Kd.R_far (p := ⟨gb542, 5, none⟩) (Kd.R_far (p := ⟨gb542, 4, none⟩) (Kd.R_far (p := ⟨gb542, 3, none⟩) (Kd.R_far (p := ⟨gb542, 2, none⟩) (Kd.R_far (p := ⟨gb542, 1, none⟩) (Kd.R_far (p := ⟨gb542, 0, none⟩) (Kd.R_mono (Kd.R_mono HO_6.out (fun k_ hk => (⟨hk, hk.1.2⟩ : _ ∧ k_ ≠ gb542))) (fun k_ hk => (⟨hk, hk.1.2⟩ : _ ∧ k_ ≠ gb543))) (fun _ hk => hk.1.2) (.bool t525)) (fun _ hk => hk.1.2) (.bool t526)) (fun _ hk => hk.1.2) (.int .i64 t527)) (fun _ hk => hk.1.2) (.int .i64 t528)) (fun _ hk => hk.1.2) (.int .i64 t529)) (fun _ hk => hk.1.2) (.slice Ao42 t530.length co42)) (fun _ hk => hk.2) (.bool t533)) (fun _ hk => hk.2) (.bool t534)) (fun _ hk => hk.2) (.int .i64 t535)) (fun _ hk => hk.2) (.int .i64 t536)) (fun _ hk => hk.2) (.int .i64 t537)) (fun _ hk => hk.2) (.slice Ao44 t538.length co44)) (fun _ h_ => h_.1)) (fun _ h_ => h_.1))))) (Kd.S_lt (by (with_reducible repeat (first | apply Kd.S_alloc | apply Kd.S_drewN | apply Kd.S_drew)); exact (Kd.S_mono (Kd.S_mono (Kd.S_far (p := ⟨gb543, 5, none⟩) (Kd.S_far (p := ⟨gb543, 4, none⟩) (Kd.S_far (p := ⟨gb543, 3, none⟩) (Kd.S_far (p := ⟨gb543, 2, none⟩) (Kd.S_far (p := ⟨gb543, 1, none⟩) (Kd.S_far (p := ⟨gb543, 0, none⟩) (Kd.S_far (p := ⟨gb542, 5, none⟩) (Kd.S_far (p := ⟨gb542, 4, none⟩) (Kd.S_far (p := ⟨gb542, 3, none⟩) (Kd.S_far (p := ⟨gb542, 2, none⟩) (Kd.S_far (p := ⟨gb542, 1, none⟩) (Kd.S_far (p := ⟨gb542, 0, none⟩) (Kd.S_types (Kd.S_types HO532.out BK542.out (by decide)) BK543.out (by decide)) (fun _ hk => hk.1.2) (.bool t525)) (fun _ hk => hk.1.2) (.bool t526)) (fun _ hk => hk.1.2) (.int .i64 t527)) (fun _ hk => hk.1.2) (.int .i64 t528)) (fun _ hk => hk.1.2) (.int .i64 t529)) (fun _ hk => hk.1.2) (.slice Ao42 t530.length co42)) (fun _ hk => hk.2) (.bool t533)) (fun _ hk => hk.2) (.bool t534)) (fun _ hk => hk.2) (.int .i64 t535)) (fun _ hk => hk.2) (.int .i64 t536)) (fun _ hk => hk.2) (.int .i64 t537)) (fun _ hk => hk.2) (.slice Ao44 t538.length co44)) (fun _ h_ => h_.1)) (fun _ h_ => h_.1))))) (Kd.S_lt (by (with_reducible repeat (first | apply Kd.S_alloc | apply Kd.S_drewN | apply Kd.S_drew)); exact (Kd.S_mono (Kd.S_mono (Kd.S_far (p := ⟨gb543, 5, none⟩) (Kd.S_far (p := ⟨gb543, 4, none⟩) (Kd.S_far (p := ⟨gb543, 3, none⟩) (Kd.S_far (p := ⟨gb543, 2, none⟩) (Kd.S_far (p := ⟨gb543, 1, none⟩) (Kd.S_far (p := ⟨gb543, 0, none⟩) (Kd.S_far (p := ⟨gb542, 5, none⟩) (Kd.S_far (p := ⟨gb542, 4, none⟩) (Kd.S_far (p := ⟨gb542, 3, none⟩) (Kd.S_far (p := ⟨gb542, 2, none⟩) (Kd.S_far (p := ⟨gb542, 1, none⟩) (Kd.S_far (p := ⟨gb542, 0, none⟩) (Kd.S_types (Kd.S_types HO540.out BK542.out (by decide)) BK543.out (by decide)) (fun _ hk => hk.1.2) (.bool t525)) (fun _ hk => hk.1.2) (.bool t526)) (fun _ hk => hk.1.2) (.int .i64 t527)) (fun _ hk => hk.1.2) (.int .i64 t528)) (fun _ hk => hk.1.2) (.int .i64 t529)) (fun _ hk => hk.1.2) (.slice Ao42 t530.length co42)) (fun _ hk => hk.2) (.bool t533)) (fun _ hk => hk.2) (.bool t534)) (fun _ hk => hk.2) (.int .i64 t535)) (fun _ hk => hk.2) (.int .i64 t536)) (fun _ hk => hk.2) (.int .i64 t537)) (fun _ hk => hk.2) (.slice Ao44 t538.length co44)) (fun _ h_ => h_.1)) (fun _ h_ => h_.1))))) (g := gb542) (o := .cells #[.bool t525, .bool t526, .int .i64 t527, .int .i64 t528, .int .i64 t529, .slice Ao42 t530.length co42] 47 (0, 0)) (tP BK542.out)) (g := gb543) (o := .cells #[.bool t533, .bool t534, .int .i64 t535, .int .i64 t536, .int .i64 t537, .slice Ao44 t538.length co44] 47 (0, 0)) (tP BK543.out)) (below_size zb)); replace HO_6 := Aside0.mk (Kd.R_elder' (by (with_reducible repeat (first | apply Kd.R_alloc | apply Kd.R_drewN | apply Kd.R_drew)); exact (Kd.R_mono (Kd.R_mono (Kd.R_far (p := ⟨gb543, 5, none⟩) (Kd.R_far (p := ⟨gb543, 4, none⟩) (Kd.R_far (p := ⟨gb543, 3, none⟩) (Kd.R_far (p := ⟨gb543, 2, none⟩) (Kd.R_far (p := ⟨gb543, 1, none⟩) (Kd.R_far (p := ⟨gb543, 0, none⟩) (Kd.R_far (p := ⟨gb542, 5, none⟩) (Kd.R_far (p := ⟨gb542, 4, none⟩) (Kd.R_far (p := ⟨gb542, 3, none⟩) (Kd.R_far (p := ⟨gb542, 2, none⟩) (Kd.R_far (p := ⟨gb542, 1, none⟩) (Kd.R_far (p := ⟨gb542, 0, none⟩) (Kd.R_mono (Kd.R_mono HO_6.out (fun k_ hk => (⟨hk, hk.1.2⟩ : _ ∧ k_ ≠ gb542))) (fun k_ hk => (⟨hk, hk.1.2⟩ : _ ∧ k_ ≠ gb543))) (fun _ hk => hk.1.2) (.bool t525)) (fun _ hk => hk.1.2) (.bool t526)) (fun _ hk => hk.1.2) (.int .i64 t527)) (fun _ hk => hk.1.2) (.int .i64 t528)) (fun _ hk => hk.1.2) (.int .i64 t529)) (fun _ hk => hk.1.2) (.slice Ao42 t530.length co42)) (fun _ hk => hk.2) (.bool t533)) (fun _ hk => hk.2) (.bool t534)) (fun _ hk => hk.2) (.int .i64 t535)) (fun _ hk => hk.2) (.int .i64 t536)) (fun _ hk => hk.2) (.int .i64 t537)) (fun _ hk => hk.2) (.slice Ao44 t538.length co44)) (fun _ h_ => h_.1)) (fun _ h_ => h_.1))) (Kd.R_base ho46) hb); replace HO532 := Aside0.mk (Kd.S_below (by (with_reducible repeat (first | apply Kd.S_alloc | apply Kd.S_drewN | apply Kd.S_drew)); exact (Kd.S_mono (Kd.S_mono (Kd.S_far (p := ⟨gb543, 5, none⟩) (Kd.S_far (p := ⟨gb543, 4, none⟩) (Kd.S_far (p := ⟨gb543, 3, none⟩) (Kd.S_far (p := ⟨gb543, 2, none⟩) (Kd.S_far (p := ⟨gb543, 1, none⟩) (Kd.S_far (p := ⟨gb543, 0, none⟩) (Kd.S_far (p := ⟨gb542, 5, none⟩) (Kd.S_far (p := ⟨gb542, 4, none⟩) (Kd.S_far (p := ⟨gb542, 3, none⟩) (Kd.S_far (p := ⟨gb542, 2, none⟩) (Kd.S_far (p := ⟨gb542, 1, none⟩) (Kd.S_far (p := ⟨gb542, 0, none⟩) (Kd.S_types (Kd.S_types HO532.out BK542.out (by decide)) BK543.out (by decide)) (fun _ hk => hk.1.2) (.bool t525)) (fun _ hk => hk.1.2) (.bool t526)) (fun _ hk => hk.1.2) (.int .i64 t527)) (fun _ hk => hk.1.2) (.int .i64 t528)) (fun _ hk => hk.1.2) (.int .i64 t529)) (fun _ hk => hk.1.2) (.slice Ao42 t530.length co42)) (fun _ hk => hk.2) (.bool t533)) (fun _ hk => hk.2) (.bool t534)) (fun _ hk => hk.2) (.int .i64 t535)) (fun _ hk => hk.2) (.int .i64 t536)) (fun _ hk => hk.2) (.int .i64 t537)) (fun _ hk => hk.2) (.slice Ao44 t538.length co44)) (fun _ h_ => h_.1)) (fun _ h_ => h_.1))) hb); replace HO540 := Aside0.mk (Kd.S_below (by (with_reducible repeat (first | apply Kd.S_alloc | apply Kd.S_drewN | apply Kd.S_drew)); exact (Kd.S_mono (Kd.S_mono (Kd.S_far (p := ⟨gb543, 5, none⟩) (Kd.S_far (p := ⟨gb543, 4, none⟩) (Kd.S_far (p := ⟨gb543, 3, none⟩) (Kd.S_far (p := ⟨gb543, 2, none⟩) (Kd.S_far (p := ⟨gb543, 1, none⟩) (Kd.S_far (p := ⟨gb543, 0, none⟩) (Kd.S_far (p := ⟨gb542, 5, none⟩) (Kd.S_far (p := ⟨gb542, 4, none⟩) (Kd.S_far (p := ⟨gb542, 3, none⟩) (Kd.S_far (p := ⟨gb542, 2, none⟩) (Kd.S_far (p := ⟨gb542, 1, none⟩) (Kd.S_far (p := ⟨gb542, 0, none⟩) (Kd.S_types (Kd.S_types HO540.out BK542.out (by decide)) BK543.out (by decide)) (fun _ hk => hk.1.2) (.bool t525)) (fun _ hk => hk.1.2) (.bool t526)) (fun _ hk => hk.1.2) (.int .i64 t527)) (fun _ hk => hk.1.2) (.int .i64 t528)) (fun _ hk => hk.1.2) (.int .i64 t529)) (fun _ hk => hk.1.2) (.slice Ao42 t530.length co42)) (fun _ hk => hk.2) (.bool t533)) (fun _ hk => hk.2) (.bool t534)) (fun _ hk => hk.2) (.int .i64 t535)) (fun _ hk => hk.2) (.int .i64 t536)) (fun _ hk => hk.2) (.int .i64 t537)) (fun _ hk => hk.2) (.slice Ao44 t538.length co44)) (fun _ h_ => h_.1)) (fun _ h_ => h_.1))) hb); replace BK542 := tBp (o' := .cells #[.bool t525, .bool t526, .int .i64 t527, .int .i64 t528, .int .i64 t529, .slice Ao42 t530.length co42] 47 (0, 0)) BK542 hb; replace BK543 := tBp (o' := .cells #[.bool t533, .bool t534, .int .i64 t535, .int .i64 t536, .int .i64 t537, .slice Ao44 t538.length co44] 47 (0, 0)) BK543 hb; replace HB := tBs HB hb; clear hb ho46))
          go_ret2
          exact ⟨_, by first | rfl | (simp [errW_none, errW_some] <;> rfl) | (simp [*, errW_none, errW_some] <;> rfl), tRm HO549.out, zb⟩
        ·rw [if_neg c19] at H
         have c19b0 : decide (((rd_T33 ((rd_T47 l0 x7_1).f5) 0).f0) < a1) = false := decide_eq_false c19
         clear c19
         have H' := Aside0.mk H
         clear H
         have p508 : 0 ≤ (x7_1 : Int) := td
         have q508 : x7_1 < (l0.length : Int) := td
         obtain ⟨ad508, A508_5, c508_5, e508, hx508_0, hx508_1, hx508_2, hx508_3, hx508_4, hx508_5, hl508_5, hi508_5⟩ := at_T47 HR0.out x7_1 p508 q508
         cases e508
         replace hx508_0 := tcl HB hx508_0
         replace hx508_1 := tcl HB hx508_1
         replace hx508_2 := tcl HB hx508_2
         replace hx508_3 := tcl HB hx508_3
         replace hx508_4 := tcl HB hx508_4
         replace hx508_5 := tcl HB hx508_5
         have HR508_5 := Aside0.mk hi508_5
         have HC508_5 := Aside0.mk hl508_5
         clear hi508_5 hl508_5
         replace p508 := eq_true p508
         replace q508 := eq_true q508
         go_wp2_with (first | ((with_reducible refine gate_callee (f := 39) rfl ?_); refine goesL_ (some 26) rfl rfl Tryd.func39 (by kernel_rfl) rfl #[.agg #[.bool ((rd_T47 l0 x7_1).f0), .bool ((rd_T47 l0 x7_1).f1), .int .i64 ((rd_T47 l0 x7_1).f2), .int .i64 ((rd_T47 l0 x7_1).f3), .int .i64 ((rd_T47 l0 x7_1).f4), .slice A508_5 ((rd_T47 l0 x7_1).f5).length c508_5]] rfl tq ?_; (with_reducible refine (spec_l12Last.calls ((rd_T47 l0 x7_1).f0) ((rd_T47 l0 x7_1).f1) ((rd_T47 l0 x7_1).f2) ((rd_T47 l0 x7_1).f3) ((rd_T47 l0 x7_1).f4) _ _ ((rd_T47 l0 x7_1).f5) t509 _ ?side1 ?side2 A10.out).mono ?_); (case side1 => exact tC (Kd.C_below HR508_5.out HB.out)); (case side2 => exact HC508_5.out); rintro e w47 ⟨rfl, hb⟩; refine ⟨_, rfl, ?_⟩; replace HO_6 := tRb HO_6 hb; replace HB := tBs HB hb; (try clear hb); (try clear hb2); (try clear hk); (try clear hi); have p522 : 0 ≤ (x7_1 : Int) := td; have q522 : x7_1 < (l0.length : Int) := td; obtain ⟨ad522, A522_5, c522_5, e522, hx522_0, hx522_1, hx522_2, hx522_3, hx522_4, hx522_5, hl522_5, hi522_5⟩ := at_T47 HR0.out x7_1 p522 q522; obtain rfl : ad508 = ad522 := (by injection e522); replace hx522_0 := tcl HB hx522_0; replace hx522_1 := tcl HB hx522_1; replace hx522_2 := tcl HB hx522_2; replace hx522_3 := tcl HB hx522_3; replace hx522_4 := tcl HB hx522_4; replace hx522_5 := tcl HB hx522_5; have HR522_5 := Aside0.mk hi522_5; have HC522_5 := Aside0.mk hl522_5; clear hi522_5 hl522_5; replace p522 := eq_true p522; replace q522 := eq_true q522; have p523 : 0 ≤ (0 : Int) := (by omega); have q523 : 0 < (((rd_T47 l0 x7_1).f5).length : Int) := td; obtain ⟨ad523, A523_3, c523_3, A523_5, c523_5, e523, hx523_0, hx523_1, hx523_2, hx523_3, hx523_4, hx523_5, hl523_3, hi523_3, hl523_5, hi523_5⟩ := at_T33 HR522_5.out 0 p523 q523; cases e523; have qi523 : (0 < ((rd_T47 l0 x7_1).f5).length) = True := eq_true (by omega); (try rw [show ((0 : Int)).toNat = 0 from rfl] at hx523_0); (try rw [show 0 * 6 = 0 from rfl] at hx523_0); (try rw [Addr.add_zero'] at hx523_0); (try rw [show ((0 : Int)).toNat = 0 from rfl] at hx523_1); (try rw [show 0 * 6 = 0 from rfl] at hx523_1); (try rw [Addr.add_zero'] at hx523_1); (try rw [show ((0 : Int)).toNat = 0 from rfl] at hx523_2); (try rw [show 0 * 6 = 0 from rfl] at hx523_2); (try rw [Addr.add_zero'] at hx523_2); (try rw [show ((0 : Int)).toNat = 0 from rfl] at hx523_3); (try rw [show 0 * 6 = 0 from rfl] at hx523_3); (try rw [Addr.add_zero'] at hx523_3); (try rw [show ((0 : Int)).toNat = 0 from rfl] at hx523_4); (try rw [show 0 * 6 = 0 from rfl] at hx523_4); (try rw [Addr.add_zero'] at hx523_4); (try rw [show ((0 : Int)).toNat = 0 from rfl] at hx523_5); (try rw [show 0 * 6 = 0 from rfl] at hx523_5); (try rw [Addr.add_zero'] at hx523_5); replace hx523_0 := tcl HB hx523_0; replace hx523_1 := tcl HB hx523_1; replace hx523_2 := tcl HB hx523_2; replace hx523_3 := tcl HB hx523_3; replace hx523_4 := tcl HB hx523_4; replace hx523_5 := tcl HB hx523_5; have HR523_3 := Aside0.mk hi523_3; have HC523_3 := Aside0.mk hl523_3; clear hi523_3 hl523_3; have HR523_5 := Aside0.mk hi523_5; have HC523_5 := Aside0.mk hl523_5; clear hi523_5 hl523_5; replace p523 := eq_true p523; replace q523 := eq_true q523))
         go_roundg k1
         case measure => have := HK1.out; omega
         case rel => exact ⟨(x6_1), (wrap64 (x7_1 + 1)), tr, H', ⟨by have := HK1.out; omega⟩, ⟨tR HO_6.out⟩, ⟨zb⟩⟩
       ·rw [if_neg c18] at H
        exact absurd H (by simp)
     ·rw [if_neg c9] at H
      exact absurd H (by simp)
    ·rw [if_neg c8] at H
     have c8b0 : decide (x7_1 < (l0.length : Int)) = false := decide_eq_false c8
     clear c8
     simp only [Option.some.injEq, Prod.mk.injEq] at H
     obtain ⟨rfl, rfl⟩ := H
     go_wp2
     go_ret2
     exact ⟨_, by first | rfl | (simp [errW_none, errW_some] <;> rfl) | (simp [*, errW_none, errW_some] <;> rfl), tR HO_6.out, zb⟩
 ·replace c4 := Bool.eq_false_iff.mpr c4
  subst c4
  rw [if_neg (show ¬ (false = true) by decide)] at H
  simp only [Option.some.injEq, Prod.mk.injEq] at H
  obtain ⟨rfl, rfl⟩ := H
  go_enter Tryd.func13, Tryd.ntmps13
  go_wp2_with (first | ((with_reducible refine gate_dst (N := 11) rfl ?_); refine Kd.R_lit k47 _ 47 ?hg (N := 11) ?hd (xs := ([] : List (S47))) (inner := []) (ok := fun _ => True) (okp := fun _ => True) ?hr ?hp (fun _ hk => hk) trivial (Below.refl _ _) (Nat.le_refl _) (by simp) ?_; (case hd => rfl); (case hg => rfl); (case hr => first | (go_simp; done) | (go_simp; rfl)); (case hp => exact (Reps.none _ _)); intro v505 w48 ho49 hb hg_ hnew_; clear hg_ hnew_; (first | rw [← Ny504.out] at ho49 | (simp only [Int.reduceToNat] at ho49; rw [← Ny504.out] at ho49)); have HO506 := tRl ho49 HB; replace HB := tBs HB hb; clear hb ho49) | ((with_reducible refine gate_callee (f := 38) rfl ?_); refine goesL_ (some 13) rfl rfl Tryd.func38 (by kernel_rfl) rfl #[.slice A0 l0.length c0] rfl tq ?_; (with_reducible refine (spec_LogValid.calls k _ _ l0 false _ ?side1 ?side2 A3.out).mono ?_); (case side1 => exact tC (Kd.C_below HR0.out HB.out)); (case side2 => exact HC0.out); rintro e w50 ⟨rfl, hb⟩; refine ⟨_, rfl, ?_⟩; replace HO506 := tRb HO506 hb; replace HB := tBs HB hb; (try clear hb); (try clear hb2); (try clear hk); (try clear hi)))
  go_ret2
  exact ⟨_, by first | rfl | (simp [errW_none, errW_some] <;> rfl) | (simp [*, errW_none, errW_some] <;> rfl), tR HO506.out, zb⟩

def laws_sameInts.l0 : Nat → List Int → List Int → Int → Option (Bool)
 | 0, _, _, _ => none
 | k + 1, x0, x1, x5 => if x5 < (x0.length : Int) then (if 0 ≤ x5 then (if x5 < (x1.length : Int) then (if (rd x0 x5) = (rd x1 x5) then (laws_sameInts.l0 k x0 x1 (wrap64 (x5 + 1))) else (some false)) else (none)) else (none)) else (some true)
def laws_sameInts.f (k : Nat) (l0 : List Int) (l1 : List Int) : Option (Bool) := if (l0.length : Int) = (l1.length : Int) then (laws_sameInts.l0 k l0 l1 0) else (some false)
set_option maxHeartbeats 8000000 in
set_option maxRecDepth 100000 in
theorem laws_sameInts.calls (k : Nat) (A0 : Option Addr) (c0 : Nat) (l0 : List Int) (A1 : Option Addr) (c1 : Nat) (l1 : List Int) (r : Bool) (w : World) (hr0 : Kd.C (Kd.int .i64) w A0 l0.length l0) (hc0 : l0.length ≤ c0) (hr1 : Kd.C (Kd.int .i64) w A1 l1.length l1) (hc1 : l1.length ≤ c1) (h : laws_sameInts.f k l0 l1 = some r) :
  Calls Tryd.prog 43 #[.slice A0 l0.length c0, .slice A1 l1.length c1] w fun e w' => e = .returned (.bool r) ∧ Drawn0 w w' := by
 have HR0 := Aside0.mk hr0
 have HC0 := Aside0.mk hc0
 clear hr0 hc0
 have HR1 := Aside0.mk hr1
 have HC1 := Aside0.mk hc1
 clear hr1 hc1
 have H : (if (l0.length : Int) = (l1.length : Int) then (laws_sameInts.l0 k l0 l1 0) else (some false)) = some r := h
 clear h
 by_cases c3 : (l0.length : Int) = (l1.length : Int)
 ·rw [if_pos c3] at H
  have c3b0 : ((l0.length : Int) == (l1.length : Int)) = true := beq_iff_eq.mpr c3
  have c3b1 : ((l0.length : Int) != (l1.length : Int)) = false := bne_eq_false_iff_eq.mpr c3
  have c3b2 : (l0.length == l1.length) = true := by first | simpa using c3 | (simp at c3 ⊢; omega)
  clear c3
  have H' := Aside0.mk H
  clear H
  go_enter Tryd.func43, Tryd.ntmps43
  go_wp2
  repeat (go_quiet (fail); try go_wp2)
  go_loopg [5] k (fun kq v5 w' => ∃ (x5_1 : Int), v5 = .int .i64 x5_1 ∧ Aside0 (laws_sameInts.l0 kq l0 l1 x5_1 = some r) ∧ Aside0 (kq ≤ k) ∧ Drawn0 w w')
  case atStart => exact ⟨(0), tr, H', ⟨Nat.le_refl _⟩, by repeat (first | exact Drawn0.refl _ | apply Drawn0.step)⟩
  case round =>
   clear H'
   try clear c1; try clear c3; try clear c3b0; try clear c3b1; try clear c3b2
   obtain ⟨x5_1, rfl, HA, HK1, ⟨m1, rfl⟩⟩ := hrel
   cases gk with
   | zero => exact absurd HA.out (by simp [laws_sameInts.l0])
   | succ k1 =>
    have H := HA.out
    clear HA
    simp only [laws_sameInts.l0] at H
    by_cases c4 : x5_1 < (l0.length : Int)
    ·rw [if_pos c4] at H
     have c4b0 : decide (x5_1 < (l0.length : Int)) = true := decide_eq_true c4
     clear c4
     by_cases c5 : 0 ≤ x5_1
     ·rw [if_pos c5] at H
      have c5b0 : decide (0 ≤ x5_1) = true := decide_eq_true c5
      clear c5
      by_cases c6 : x5_1 < (l1.length : Int)
      ·rw [if_pos c6] at H
       have c6b0 : decide (x5_1 < (l1.length : Int)) = true := decide_eq_true c6
       clear c6
       by_cases c7 : (rd l0 x5_1) = (rd l1 x5_1)
       ·rw [if_pos c7] at H
        have c7b0 : ((rd l0 x5_1) == (rd l1 x5_1)) = true := beq_iff_eq.mpr c7
        have c7b1 : ((rd l0 x5_1) != (rd l1 x5_1)) = false := bne_eq_false_iff_eq.mpr c7
        clear c7
        have H' := Aside0.mk H
        clear H
        have p550 : 0 ≤ (x5_1 : Int) := td
        have q550 : x5_1 < (l0.length : Int) := td
        obtain ⟨ad550, e550, hx550_0⟩ := Kd.at_int HR0.out x5_1 p550 q550
        cases e550
        replace p550 := eq_true p550
        replace q550 := eq_true q550
        have p551 : 0 ≤ (x5_1 : Int) := td
        have q551 : x5_1 < (l1.length : Int) := td
        obtain ⟨ad551, e551, hx551_0⟩ := Kd.at_int HR1.out x5_1 p551 q551
        cases e551
        replace p551 := eq_true p551
        replace q551 := eq_true q551
        go_wp2
        repeat (go_quiet (fail); try go_wp2)
        go_roundg k1
        case measure => have := HK1.out; omega
        case rel => exact ⟨(wrap64 (x5_1 + 1)), tr, H', ⟨by have := HK1.out; omega⟩, by repeat (first | exact Drawn0.refl _ | apply Drawn0.step)⟩
       ·rw [if_neg c7] at H
        have c7b0 : ((rd l0 x5_1) == (rd l1 x5_1)) = false := beq_eq_false_iff_ne.mpr c7
        have c7b1 : ((rd l0 x5_1) != (rd l1 x5_1)) = true := bne_iff_ne.mpr c7
        obtain rfl := Option.some.inj H
        have p550 : 0 ≤ (x5_1 : Int) := td
        have q550 : x5_1 < (l0.length : Int) := td
        obtain ⟨ad550, e550, hx550_0⟩ := Kd.at_int HR0.out x5_1 p550 q550
        cases e550
        replace p550 := eq_true p550
        replace q550 := eq_true q550
        have p551 : 0 ≤ (x5_1 : Int) := td
        have q551 : x5_1 < (l1.length : Int) := td
        obtain ⟨ad551, e551, hx551_0⟩ := Kd.at_int HR1.out x5_1 p551 q551
        cases e551
        replace p551 := eq_true p551
        replace q551 := eq_true q551
        go_wp2
        repeat (go_quiet (fail); try go_wp2)
        go_ret
        exact ⟨by first | rfl | (simp; done) | (simp [*]; done), by repeat (first | exact Drawn0.refl _ | apply Drawn0.step)⟩
      ·rw [if_neg c6] at H
       exact absurd H (by simp)
     ·rw [if_neg c5] at H
      exact absurd H (by simp)
    ·rw [if_neg c4] at H
     have c4b0 : decide (x5_1 < (l0.length : Int)) = false := decide_eq_false c4
     clear c4
     obtain rfl := Option.some.inj H
     go_wp2
     repeat (go_quiet (fail); try go_wp2)
     go_ret
     exact ⟨by first | rfl | (simp; done) | (simp [*]; done), by repeat (first | exact Drawn0.refl _ | apply Drawn0.step)⟩
 ·rw [if_neg c3] at H
  have c3b0 : ((l0.length : Int) == (l1.length : Int)) = false := beq_eq_false_iff_ne.mpr c3
  have c3b1 : ((l0.length : Int) != (l1.length : Int)) = true := bne_iff_ne.mpr c3
  have c3b2 : (l0.length == l1.length) = false := by first | simpa using c3 | (simp at c3 ⊢; omega)
  obtain rfl := Option.some.inj H
  go_enter Tryd.func43, Tryd.ntmps43
  go_wp2
  repeat (go_quiet (fail); try go_wp2)
  go_ret
  exact ⟨by first | rfl | (simp; done) | (simp [*]; done), by repeat (first | exact Drawn0.refl _ | apply Drawn0.step)⟩

def laws_sameRecord.f (k : Nat) (a0_0 : Int) (a0_1 : Int) (a0_2 : Bool) (l0_3 : List Int) (a0_4 : Bool) (l0_5 : List Int) (a1_0 : Int) (a1_1 : Int) (a1_2 : Bool) (l1_3 : List Int) (a1_4 : Bool) (l1_5 : List Int) : Option (Bool) := if a0_0 = a1_0 then (if a0_1 = a1_1 then (if (a0_2 == a1_2) = true then (if (a0_4 == a1_4) = true then ((laws_sameInts.f k l0_3 l1_3).bind fun t554 => (if t554 = true then ((laws_sameInts.f k l0_5 l1_5).bind fun t555 => (some t555)) else (some false))) else (some false)) else (some false)) else (some false)) else (some false)
set_option maxHeartbeats 8000000 in
set_option maxRecDepth 100000 in
theorem laws_sameRecord.calls (k : Nat) (a0_0 : Int) (a0_1 : Int) (a0_2 : Bool) (A0_3 : Option Addr) (c0_3 : Nat) (l0_3 : List Int) (a0_4 : Bool) (A0_5 : Option Addr) (c0_5 : Nat) (l0_5 : List Int) (a1_0 : Int) (a1_1 : Int) (a1_2 : Bool) (A1_3 : Option Addr) (c1_3 : Nat) (l1_3 : List Int) (a1_4 : Bool) (A1_5 : Option Addr) (c1_5 : Nat) (l1_5 : List Int) (r : Bool) (w : World) (hr0_3 : Kd.C (Kd.int .i64) w A0_3 l0_3.length l0_3) (hc0_3 : l0_3.length ≤ c0_3) (hr0_5 : Kd.C (Kd.int .i64) w A0_5 l0_5.length l0_5) (hc0_5 : l0_5.length ≤ c0_5) (hr1_3 : Kd.C (Kd.int .i64) w A1_3 l1_3.length l1_3) (hc1_3 : l1_3.length ≤ c1_3) (hr1_5 : Kd.C (Kd.int .i64) w A1_5 l1_5.length l1_5) (hc1_5 : l1_5.length ≤ c1_5) (h : laws_sameRecord.f k a0_0 a0_1 a0_2 l0_3 a0_4 l0_5 a1_0 a1_1 a1_2 l1_3 a1_4 l1_5 = some r) :
  Calls Tryd.prog 16 #[.agg #[.int .i64 a0_0, .int .i64 a0_1, .bool a0_2, .slice A0_3 l0_3.length c0_3, .bool a0_4, .slice A0_5 l0_5.length c0_5], .agg #[.int .i64 a1_0, .int .i64 a1_1, .bool a1_2, .slice A1_3 l1_3.length c1_3, .bool a1_4, .slice A1_5 l1_5.length c1_5]] w fun e w' => e = .returned (.bool r) ∧ Below w.heap.size w w' := by
 have hu33 := Tryd.underlying33
 have HR0_3 := Aside0.mk hr0_3
 have HC0_3 := Aside0.mk hc0_3
 clear hr0_3 hc0_3
 have HR0_5 := Aside0.mk hr0_5
 have HC0_5 := Aside0.mk hc0_5
 clear hr0_5 hc0_5
 have HR1_3 := Aside0.mk hr1_3
 have HC1_3 := Aside0.mk hc1_3
 clear hr1_3 hc1_3
 have HR1_5 := Aside0.mk hr1_5
 have HC1_5 := Aside0.mk hc1_5
 clear hr1_5 hc1_5
 have HB := Aside0.mk (Below.refl w.heap.size w)
 have H : (if a0_0 = a1_0 then (if a0_1 = a1_1 then (if (a0_2 == a1_2) = true then (if (a0_4 == a1_4) = true then ((laws_sameInts.f k l0_3 l1_3).bind fun t554 => (if t554 = true then ((laws_sameInts.f k l0_5 l1_5).bind fun t555 => (some t555)) else (some false))) else (some false)) else (some false)) else (some false)) else (some false)) = some r := h
 clear h
 by_cases c3 : a0_0 = a1_0
 ·rw [if_pos c3] at H
  have c3b0 : (a0_0 == a1_0) = true := beq_iff_eq.mpr c3
  have c3b1 : (a0_0 != a1_0) = false := bne_eq_false_iff_eq.mpr c3
  clear c3
  by_cases c4 : a0_1 = a1_1
  ·rw [if_pos c4] at H
   have c4b0 : (a0_1 == a1_1) = true := beq_iff_eq.mpr c4
   have c4b1 : (a0_1 != a1_1) = false := bne_eq_false_iff_eq.mpr c4
   clear c4
   by_cases c5 : (a0_2 == a1_2) = true
   ·rw [if_pos c5] at H
    have c5b0 : (a0_2 == a1_2) = true := c5
    (try (have c5b1 : decide (a0_2 = a1_2) = true := by simpa using c5))
    (try (have c5b2 : (a0_2 == a1_2) = true := by simpa using c5))
    clear c5
    by_cases c6 : (a0_4 == a1_4) = true
    ·rw [if_pos c6] at H
     have c6b0 : (a0_4 == a1_4) = true := c6
     (try (have c6b1 : decide (a0_4 = a1_4) = true := by simpa using c6))
     (try (have c6b2 : (a0_4 == a1_4) = true := by simpa using c6))
     clear c6
     replace H := tbe H
     obtain ⟨t554, A7, H⟩ := H
     by_cases c8 : t554 = true
     ·subst c8
      rw [if_pos rfl] at H
      replace H := tbe H
      obtain ⟨t555, A9, H⟩ := H
      obtain rfl := Option.some.inj H
      go_enter Tryd.func16, Tryd.ntmps16
      go_wp2_with (first | ((with_reducible refine gate_dst (N := 2) rfl ?_); refine box_event ?hg (N := 2) ?hd (cs := #[.int .i64 a0_0, .int .i64 a0_1, .bool a0_2, .slice A0_3 l0_3.length c0_3, .bool a0_4, .slice A0_5 l0_5.length c0_5]) (t := 33) ?hr ?_; (case hd => rfl); (case hg => rfl); (case hr => first | (go_simp; done) | (go_simp; rfl)); intro gb552 hg w10 hbox hb; have BK552 := Aside0.mk (hbox); have GW552 := tge HB hg; have GE552 := tge HB hg; replace HB := tBs HB hb; clear hb hbox hg) | ((with_reducible refine gate_dst (N := 3) rfl ?_); refine box_event ?hg (N := 3) ?hd (cs := #[.int .i64 a1_0, .int .i64 a1_1, .bool a1_2, .slice A1_3 l1_3.length c1_3, .bool a1_4, .slice A1_5 l1_5.length c1_5]) (t := 33) ?hr ?_; (case hd => rfl); (case hg => rfl); (case hr => first | (go_simp; done) | (go_simp; rfl)); intro gb553 hg w11 hbox hb; have BK553 := Aside0.mk (hbox); have GW553 := tge HB hg; have GE553 := tge HB hg; replace HB := tBs HB hb; have NB552_553 := tlt BK552 hg; have NB553_552 := tgt BK552 hg; replace BK552 := tBb BK552 hb; clear hb hbox hg; have hnb12 := NB552_553.out; have hnc12 := NB553_552.out; obtain ⟨hcz13_0, hcz13_1, hcz13_2, hcz13_3, hcz13_4, hcz13_5, hfz13_0, hfz13_1, hfz13_2, hfz13_3, hfz13_4, hfz13_5⟩ := cells6 BK552.out; obtain ⟨hcz14_0, hcz14_1, hcz14_2, hcz14_3, hcz14_4, hcz14_5, hfz14_0, hfz14_1, hfz14_2, hfz14_3, hfz14_4, hfz14_5⟩ := cells6 BK553.out) | (go_at_call 43; (with_reducible refine (laws_sameInts.calls k _ _ l0_3 _ _ l1_3 true _ ?side1 ?side2 ?side3 ?side4 A7.out).mono ?_); (case side1 => exact tC (Kd.C_below HR0_3.out HB.out)); (case side2 => exact HC0_3.out); (case side3 => exact tC (Kd.C_below HR1_3.out HB.out)); (case side4 => exact HC1_3.out); rintro e w' ⟨rfl, ⟨nd, rfl⟩⟩) | (go_at_call 43; (with_reducible refine (laws_sameInts.calls k _ _ l0_5 _ _ l1_5 t555 _ ?side1 ?side2 ?side3 ?side4 A9.out).mono ?_); (case side1 => exact tC (Kd.C_below HR0_5.out zb)); (case side2 => exact HC0_5.out); (case side3 => exact tC (Kd.C_below HR1_5.out zb)); (case side4 => exact HC1_5.out); rintro e w' ⟨rfl, ⟨nd, rfl⟩⟩))
      go_ret
      exact ⟨by first | rfl | (simp [errW_none, errW_some] <;> rfl) | (simp [*, errW_none, errW_some] <;> rfl), zb⟩
     ·replace c8 := Bool.eq_false_iff.mpr c8
      subst c8
      rw [if_neg (show ¬ (false = true) by decide)] at H
      obtain rfl := Option.some.inj H
      go_enter Tryd.func16, Tryd.ntmps16
      go_wp2_with (first | ((with_reducible refine gate_dst (N := 2) rfl ?_); refine box_event ?hg (N := 2) ?hd (cs := #[.int .i64 a0_0, .int .i64 a0_1, .bool a0_2, .slice A0_3 l0_3.length c0_3, .bool a0_4, .slice A0_5 l0_5.length c0_5]) (t := 33) ?hr ?_; (case hd => rfl); (case hg => rfl); (case hr => first | (go_simp; done) | (go_simp; rfl)); intro gb552 hg w15 hbox hb; have BK552 := Aside0.mk (hbox); have GW552 := tge HB hg; have GE552 := tge HB hg; replace HB := tBs HB hb; clear hb hbox hg) | ((with_reducible refine gate_dst (N := 3) rfl ?_); refine box_event ?hg (N := 3) ?hd (cs := #[.int .i64 a1_0, .int .i64 a1_1, .bool a1_2, .slice A1_3 l1_3.length c1_3, .bool a1_4, .slice A1_5 l1_5.length c1_5]) (t := 33) ?hr ?_; (case hd => rfl); (case hg => rfl); (case hr => first | (go_simp; done) | (go_simp; rfl)); intro gb553 hg w16 hbox hb; have BK553 := Aside0.mk (hbox); have GW553 := tge HB hg; have GE553 := tge HB hg; replace HB := tBs HB hb; have NB552_553 := tlt BK552 hg; have NB553_552 := tgt BK552 hg; replace BK552 := tBb BK552 hb; clear hb hbox hg; have hnb17 := NB552_553.out; have hnc17 := NB553_552.out; obtain ⟨hcz18_0, hcz18_1, hcz18_2, hcz18_3, hcz18_4, hcz18_5, hfz18_0, hfz18_1, hfz18_2, hfz18_3, hfz18_4, hfz18_5⟩ := cells6 BK552.out; obtain ⟨hcz19_0, hcz19_1, hcz19_2, hcz19_3, hcz19_4, hcz19_5, hfz19_0, hfz19_1, hfz19_2, hfz19_3, hfz19_4, hfz19_5⟩ := cells6 BK553.out) | (go_at_call 43; (with_reducible refine (laws_sameInts.calls k _ _ l0_3 _ _ l1_3 false _ ?side1 ?side2 ?side3 ?side4 A7.out).mono ?_); (case side1 => exact tC (Kd.C_below HR0_3.out HB.out)); (case side2 => exact HC0_3.out); (case side3 => exact tC (Kd.C_below HR1_3.out HB.out)); (case side4 => exact HC1_3.out); rintro e w' ⟨rfl, ⟨nd, rfl⟩⟩))
      go_ret
      exact ⟨by first | rfl | (simp [errW_none, errW_some] <;> rfl) | (simp [*, errW_none, errW_some] <;> rfl), zb⟩
    ·rw [if_neg c6] at H
     have c6b0 : (a0_4 == a1_4) = false := by simpa using c6
     (try (have c6b1 : decide (a0_4 = a1_4) = false := by simpa using c6))
     (try (have c6b2 : (a0_4 == a1_4) = false := by simpa using c6))
     (try (have c6b3 : ¬ (a0_4 = a1_4) := by simpa using c6))
     clear c6
     obtain rfl := Option.some.inj H
     go_enter Tryd.func16, Tryd.ntmps16
     go_wp2_with (first | ((with_reducible refine gate_dst (N := 2) rfl ?_); refine box_event ?hg (N := 2) ?hd (cs := #[.int .i64 a0_0, .int .i64 a0_1, .bool a0_2, .slice A0_3 l0_3.length c0_3, .bool a0_4, .slice A0_5 l0_5.length c0_5]) (t := 33) ?hr ?_; (case hd => rfl); (case hg => rfl); (case hr => first | (go_simp; done) | (go_simp; rfl)); intro gb552 hg w20 hbox hb; have BK552 := Aside0.mk (hbox); have GW552 := tge HB hg; have GE552 := tge HB hg; replace HB := tBs HB hb; clear hb hbox hg) | ((with_reducible refine gate_dst (N := 3) rfl ?_); refine box_event ?hg (N := 3) ?hd (cs := #[.int .i64 a1_0, .int .i64 a1_1, .bool a1_2, .slice A1_3 l1_3.length c1_3, .bool a1_4, .slice A1_5 l1_5.length c1_5]) (t := 33) ?hr ?_; (case hd => rfl); (case hg => rfl); (case hr => first | (go_simp; done) | (go_simp; rfl)); intro gb553 hg w21 hbox hb; have BK553 := Aside0.mk (hbox); have GW553 := tge HB hg; have GE553 := tge HB hg; replace HB := tBs HB hb; have NB552_553 := tlt BK552 hg; have NB553_552 := tgt BK552 hg; replace BK552 := tBb BK552 hb; clear hb hbox hg; have hnb22 := NB552_553.out; have hnc22 := NB553_552.out; obtain ⟨hcz23_0, hcz23_1, hcz23_2, hcz23_3, hcz23_4, hcz23_5, hfz23_0, hfz23_1, hfz23_2, hfz23_3, hfz23_4, hfz23_5⟩ := cells6 BK552.out; obtain ⟨hcz24_0, hcz24_1, hcz24_2, hcz24_3, hcz24_4, hcz24_5, hfz24_0, hfz24_1, hfz24_2, hfz24_3, hfz24_4, hfz24_5⟩ := cells6 BK553.out))
     go_ret
     exact ⟨by first | rfl | (simp [errW_none, errW_some] <;> rfl) | (simp [*, errW_none, errW_some] <;> rfl), zb⟩
   ·rw [if_neg c5] at H
    have c5b0 : (a0_2 == a1_2) = false := by simpa using c5
    (try (have c5b1 : decide (a0_2 = a1_2) = false := by simpa using c5))
    (try (have c5b2 : (a0_2 == a1_2) = false := by simpa using c5))
    (try (have c5b3 : ¬ (a0_2 = a1_2) := by simpa using c5))
    clear c5
    obtain rfl := Option.some.inj H
    go_enter Tryd.func16, Tryd.ntmps16
    go_wp2_with (first | ((with_reducible refine gate_dst (N := 2) rfl ?_); refine box_event ?hg (N := 2) ?hd (cs := #[.int .i64 a0_0, .int .i64 a0_1, .bool a0_2, .slice A0_3 l0_3.length c0_3, .bool a0_4, .slice A0_5 l0_5.length c0_5]) (t := 33) ?hr ?_; (case hd => rfl); (case hg => rfl); (case hr => first | (go_simp; done) | (go_simp; rfl)); intro gb552 hg w25 hbox hb; have BK552 := Aside0.mk (hbox); have GW552 := tge HB hg; have GE552 := tge HB hg; replace HB := tBs HB hb; clear hb hbox hg) | ((with_reducible refine gate_dst (N := 3) rfl ?_); refine box_event ?hg (N := 3) ?hd (cs := #[.int .i64 a1_0, .int .i64 a1_1, .bool a1_2, .slice A1_3 l1_3.length c1_3, .bool a1_4, .slice A1_5 l1_5.length c1_5]) (t := 33) ?hr ?_; (case hd => rfl); (case hg => rfl); (case hr => first | (go_simp; done) | (go_simp; rfl)); intro gb553 hg w26 hbox hb; have BK553 := Aside0.mk (hbox); have GW553 := tge HB hg; have GE553 := tge HB hg; replace HB := tBs HB hb; have NB552_553 := tlt BK552 hg; have NB553_552 := tgt BK552 hg; replace BK552 := tBb BK552 hb; clear hb hbox hg; have hnb27 := NB552_553.out; have hnc27 := NB553_552.out; obtain ⟨hcz28_0, hcz28_1, hcz28_2, hcz28_3, hcz28_4, hcz28_5, hfz28_0, hfz28_1, hfz28_2, hfz28_3, hfz28_4, hfz28_5⟩ := cells6 BK552.out; obtain ⟨hcz29_0, hcz29_1, hcz29_2, hcz29_3, hcz29_4, hcz29_5, hfz29_0, hfz29_1, hfz29_2, hfz29_3, hfz29_4, hfz29_5⟩ := cells6 BK553.out))
    go_ret
    exact ⟨by first | rfl | (simp [errW_none, errW_some] <;> rfl) | (simp [*, errW_none, errW_some] <;> rfl), zb⟩
  ·rw [if_neg c4] at H
   have c4b0 : (a0_1 == a1_1) = false := beq_eq_false_iff_ne.mpr c4
   have c4b1 : (a0_1 != a1_1) = true := bne_iff_ne.mpr c4
   obtain rfl := Option.some.inj H
   go_enter Tryd.func16, Tryd.ntmps16
   go_wp2_with (first | ((with_reducible refine gate_dst (N := 2) rfl ?_); refine box_event ?hg (N := 2) ?hd (cs := #[.int .i64 a0_0, .int .i64 a0_1, .bool a0_2, .slice A0_3 l0_3.length c0_3, .bool a0_4, .slice A0_5 l0_5.length c0_5]) (t := 33) ?hr ?_; (case hd => rfl); (case hg => rfl); (case hr => first | (go_simp; done) | (go_simp; rfl)); intro gb552 hg w30 hbox hb; have BK552 := Aside0.mk (hbox); have GW552 := tge HB hg; have GE552 := tge HB hg; replace HB := tBs HB hb; clear hb hbox hg) | ((with_reducible refine gate_dst (N := 3) rfl ?_); refine box_event ?hg (N := 3) ?hd (cs := #[.int .i64 a1_0, .int .i64 a1_1, .bool a1_2, .slice A1_3 l1_3.length c1_3, .bool a1_4, .slice A1_5 l1_5.length c1_5]) (t := 33) ?hr ?_; (case hd => rfl); (case hg => rfl); (case hr => first | (go_simp; done) | (go_simp; rfl)); intro gb553 hg w31 hbox hb; have BK553 := Aside0.mk (hbox); have GW553 := tge HB hg; have GE553 := tge HB hg; replace HB := tBs HB hb; have NB552_553 := tlt BK552 hg; have NB553_552 := tgt BK552 hg; replace BK552 := tBb BK552 hb; clear hb hbox hg; have hnb32 := NB552_553.out; have hnc32 := NB553_552.out; obtain ⟨hcz33_0, hcz33_1, hcz33_2, hcz33_3, hcz33_4, hcz33_5, hfz33_0, hfz33_1, hfz33_2, hfz33_3, hfz33_4, hfz33_5⟩ := cells6 BK552.out; obtain ⟨hcz34_0, hcz34_1, hcz34_2, hcz34_3, hcz34_4, hcz34_5, hfz34_0, hfz34_1, hfz34_2, hfz34_3, hfz34_4, hfz34_5⟩ := cells6 BK553.out))
   go_ret
   exact ⟨by first | rfl | (simp [errW_none, errW_some] <;> rfl) | (simp [*, errW_none, errW_some] <;> rfl), zb⟩
 ·rw [if_neg c3] at H
  have c3b0 : (a0_0 == a1_0) = false := beq_eq_false_iff_ne.mpr c3
  have c3b1 : (a0_0 != a1_0) = true := bne_iff_ne.mpr c3
  obtain rfl := Option.some.inj H
  go_enter Tryd.func16, Tryd.ntmps16
  go_wp2_with (first | ((with_reducible refine gate_dst (N := 2) rfl ?_); refine box_event ?hg (N := 2) ?hd (cs := #[.int .i64 a0_0, .int .i64 a0_1, .bool a0_2, .slice A0_3 l0_3.length c0_3, .bool a0_4, .slice A0_5 l0_5.length c0_5]) (t := 33) ?hr ?_; (case hd => rfl); (case hg => rfl); (case hr => first | (go_simp; done) | (go_simp; rfl)); intro gb552 hg w35 hbox hb; have BK552 := Aside0.mk (hbox); have GW552 := tge HB hg; have GE552 := tge HB hg; replace HB := tBs HB hb; clear hb hbox hg) | ((with_reducible refine gate_dst (N := 3) rfl ?_); refine box_event ?hg (N := 3) ?hd (cs := #[.int .i64 a1_0, .int .i64 a1_1, .bool a1_2, .slice A1_3 l1_3.length c1_3, .bool a1_4, .slice A1_5 l1_5.length c1_5]) (t := 33) ?hr ?_; (case hd => rfl); (case hg => rfl); (case hr => first | (go_simp; done) | (go_simp; rfl)); intro gb553 hg w36 hbox hb; have BK553 := Aside0.mk (hbox); have GW553 := tge HB hg; have GE553 := tge HB hg; replace HB := tBs HB hb; have NB552_553 := tlt BK552 hg; have NB553_552 := tgt BK552 hg; replace BK552 := tBb BK552 hb; clear hb hbox hg; have hnb37 := NB552_553.out; have hnc37 := NB553_552.out; obtain ⟨hcz38_0, hcz38_1, hcz38_2, hcz38_3, hcz38_4, hcz38_5, hfz38_0, hfz38_1, hfz38_2, hfz38_3, hfz38_4, hfz38_5⟩ := cells6 BK552.out; obtain ⟨hcz39_0, hcz39_1, hcz39_2, hcz39_3, hcz39_4, hcz39_5, hfz39_0, hfz39_1, hfz39_2, hfz39_3, hfz39_4, hfz39_5⟩ := cells6 BK553.out))
  go_ret
  exact ⟨by first | rfl | (simp [errW_none, errW_some] <;> rfl) | (simp [*, errW_none, errW_some] <;> rfl), zb⟩

end Go.Proofs.YtbbboachakkgiaaDoor.G

