/- A text of seat YtfjkpdhldeopaaaDoor: what the law FnExactBatchCut needs of this repo's texts (by pack.py). Not trusted: Lean checks it. -/
import Derived.Test.YtfjkpdhldeopaaaDoorKFnExactBatchCut7
import Derived.Deep.Slices
import Derived.SizedLaws
import Derived.Test.YtfjkpdhldeopaaaDoorRows
import Derived.Test.YtfjkpdhldeopaaaDoorCards
import Derived.Test.YtfjkpdhldeopaaaDoorTie
import Derived.SevenTiedAt
import Derived.WalkSmall
import Derived.ChangeVars
import Derived.JoinedOf
import Derived.LaidLaws
import Derived.LaidHandle
import Derived.Stop.LaidErr
import Derived.Stop.LaidTwo
import Derived.Stop.Joined
import Derived.RowKitTokens
import Derived.WalkKit
import Derived.ProofKit
import Derived.OpenShut
import Derived.ShutString
import Derived.ChangeOld
import Derived.Below
import Derived.Lib.SmallJoins
import Derived.Laws.StructEq
import Derived.ChangeSlices
namespace Go.Proofs.YtfjkpdhldeopaaaDoor.G
open Go.RowKit Go.Proofs.YtfjkpdhldeopaaaDoorW.PrintWords Go.Proofs.YtfjkpdhldeopaaaDoorW.PrintLast Go.Proofs.YtfjkpdhldeopaaaDoorW.PrintMore
attribute [local go_sem] max2_int min2_int max_two min_two max_three min_three max_four min_four   -- for this text's walks alone
set_option linter.unusedVariables false
set_option linter.unusedSimpArgs false

mutual
def spec_BatchCut.j0 : Nat → Int → Bool → Bool → Bool → Int → Int → Int → List (S62) → Option (Bool × Bool × Int × Int × Int × (List (S62)) × Bool × Bool × Int × Int × Int × (List (S62)) × Bool)
 | 0, _, _, _, _, _, _, _, _ => none
 | k + 1, x1, x15, x311000, x311001, x311002, x311003, x311004, x311005 => if x15 = true then (some (false, false, 0, 0, 0, ([] : List (S62)), false, false, 0, 0, 0, ([] : List (S62)), false)) else (spec_BatchCut.l0 k x1 0 x311000 x311001 x311002 x311003 x311004 x311005)
def spec_BatchCut.j2 : Nat → Int → Bool → Bool → Int → Int → Int → List (S62) → Option (Bool × Bool × Int × Int × Int × (List (S62)) × Bool × Bool × Int × Int × Int × (List (S62)) × Bool)
 | 0, _, _, _, _, _, _, _ => none
 | k + 1, x7, x311000, x311001, x311002, x311003, x311004, x311005 => if x7 = 0 then (spec_BatchCut.j3 k x7 true x311000 x311001 x311002 x311003 x311004 x311005) else (spec_BatchCut.j3 k x7 (x7 == (x311005.length : Int)) x311000 x311001 x311002 x311003 x311004 x311005)
def spec_BatchCut.j3 : Nat → Int → Bool → Bool → Bool → Int → Int → Int → List (S62) → Option (Bool × Bool × Int × Int × Int × (List (S62)) × Bool × Bool × Int × Int × Int × (List (S62)) × Bool)
 | 0, _, _, _, _, _, _, _, _ => none
 | k + 1, x7, x43, x311000, x311001, x311002, x311003, x311004, x311005 => if x43 = true then (some (false, false, 0, 0, 0, ([] : List (S62)), false, false, 0, 0, 0, ([] : List (S62)), false)) else (if 0 ≤ x7 then (if x7 ≤ (x311005.length : Int) then ((spec_l31Free.f k x311000 (x311005.take (x7 : Int).toNat)).bind fun bt319 => ((spec_l31Free.f k x311000 (x311005.drop (x7 : Int).toNat)).bind fun bt331 => (some (bt319.1, bt319.2.1, bt319.2.2.1, bt319.2.2.2.1, bt319.2.2.2.2.1, bt319.2.2.2.2.2, bt331.1, bt331.2.1, bt331.2.2.1, bt331.2.2.2.1, bt331.2.2.2.2.1, bt331.2.2.2.2.2, true)))) else (none)) else (none))
def spec_BatchCut.l0 : Nat → Int → Int → Bool → Bool → Int → Int → Int → List (S62) → Option (Bool × Bool × Int × Int × Int × (List (S62)) × Bool × Bool × Int × Int × Int × (List (S62)) × Bool)
 | 0, _, _, _, _, _, _, _, _ => none
 | k + 1, x1, x7, x311000, x311001, x311002, x311003, x311004, x311005 => if x7 < (x311005.length : Int) then (if 0 ≤ x7 then (if ((rd_T62 x311005 x7).f0) < x1 then (spec_BatchCut.l0 k x1 (wrap64 (x7 + 1)) x311000 x311001 x311002 x311003 x311004 x311005) else (spec_BatchCut.j2 k x7 x311000 x311001 x311002 x311003 x311004 x311005)) else (none)) else (spec_BatchCut.j2 k x7 x311000 x311001 x311002 x311003 x311004 x311005)
end
def spec_BatchCut.f (k : Nat) (a0_0 : Bool) (a0_1 : Bool) (a0_2 : Int) (a0_3 : Int) (a0_4 : Int) (l0_5 : List (S62)) (a1 : Int) : Option (Bool × Bool × Int × Int × Int × (List (S62)) × Bool × Bool × Int × Int × Int × (List (S62)) × Bool) := (spec_BatchValid.f k a0_0 a0_1 a0_2 a0_3 a0_4 l0_5).bind fun t313 => (if t313 = true then (spec_BatchCut.j0 k a1 (a0_2 != 255) a0_0 a0_1 a0_2 a0_3 a0_4 l0_5) else (spec_BatchCut.j0 k a1 true a0_0 a0_1 a0_2 a0_3 a0_4 l0_5))
def spec_BatchCut.T8 : Bool × List (List Nat × List Nat) := (true, [([], []), ([0], [0]), ([], []), ([2], [2]), ([], []), ([3, 4], [3, 4]), ([1, 5], [1, 5]), ([], []), ([7], [7]), ([], []), ([9], [9]), ([], []), ([10, 11], [10, 11]), ([8, 12, 6], [8, 12]), ([6, 13, 0, 1, 2, 3, 4, 5, 6], [6]), ([13, 14, 0, 1, 2, 3, 4, 5, 6, 7, 8, 9, 10, 11, 12, 13, 14], [13]), ([15, 0, 1, 2, 3, 4, 5, 6, 7, 8, 9, 10, 11, 12, 13, 14, 15], [])])
def spec_BatchCut.B8 : List Nat := [0, 1, 0, 4, 0, 28, 63, 0, 128, 0, 512, 0, 3584, 8191, 16383, 32767, 65535]
theorem spec_BatchCut.tab8 : rtab .any (opsOf Tryd.f14 8) = spec_BatchCut.T8 := by kernel_rfl
theorem spec_BatchCut.bits8 : waitsOk spec_BatchCut.T8.2 spec_BatchCut.B8 = true := by kernel_rfl
set_option maxHeartbeats 8000000 in
set_option maxRecDepth 100000 in
theorem spec_BatchCut.calls (k : Nat) (a0_0 : Bool) (a0_1 : Bool) (a0_2 : Int) (a0_3 : Int) (a0_4 : Int) (A0_5 : Option Addr) (c0_5 : Nat) (l0_5 : List (S62)) (a1 : Int) (r1 : Bool) (r2 : Bool) (r3 : Int) (r4 : Int) (r5 : Int) (r6 : List (S62)) (r7 : Bool) (r8 : Bool) (r9 : Int) (r10 : Int) (r11 : Int) (r12 : List (S62)) (r13 : Bool) (w : World) (hr0_5 : Kd.C k62 w A0_5 l0_5.length l0_5) (hc0_5 : l0_5.length ≤ c0_5) (h : spec_BatchCut.f k a0_0 a0_1 a0_2 a0_3 a0_4 l0_5 a1 = some (r1, r2, r3, r4, r5, r6, r7, r8, r9, r10, r11, r12, r13)) :
  Calls Tryd.prog 14 #[.agg #[.bool a0_0, .bool a0_1, .int .i64 a0_2, .int .i64 a0_3, .int .i64 a0_4, .slice A0_5 l0_5.length c0_5], .int .i64 a1] w fun e w' => ∃ v5_ v11_ : Value, e = .returned (.tuple #[.agg #[.bool r1, .bool r2, .int .i64 r3, .int .i64 r4, .int .i64 r5, v5_], .agg #[.bool r7, .bool r8, .int .i64 r9, .int .i64 r10, .int .i64 r11, v11_], .bool r13]) ∧ Kd.S k62 62 w' w.heap.size (fun k_ => some k_ ≠ (v11_ : Value).ownBlock) v5_ r6 ∧ Kd.S k62 62 w' w.heap.size (fun k_ => some k_ ≠ (v5_ : Value).ownBlock) v11_ r12 ∧ Below w.heap.size w w' := by
 have hu28 := Tryd.underlying28
 have HR0_5 := Aside0.mk hr0_5
 have HC0_5 := Aside0.mk hc0_5
 clear hr0_5 hc0_5
 have HB := Aside0.mk (Below.refl w.heap.size w)
 have H : ((spec_BatchValid.f k a0_0 a0_1 a0_2 a0_3 a0_4 l0_5).bind fun t313 => (if t313 = true then (spec_BatchCut.j0 k a1 (a0_2 != 255) a0_0 a0_1 a0_2 a0_3 a0_4 l0_5) else (spec_BatchCut.j0 k a1 true a0_0 a0_1 a0_2 a0_3 a0_4 l0_5))) = some (r1, r2, r3, r4, r5, r6, r7, r8, r9, r10, r11, r12, r13) := h
 clear h
 have HC3 := Aside0.mk H
 clear H
 go_enter Tryd.func14, Tryd.ntmps14
 go_upto_region 1 with (first | ((with_reducible refine gate_dst (N := 2) rfl ?_); (try (refine gate_guard (by rfl) ?_; dsimp only)); refine box_event ?hg (N := 2) ?hd (cs := #[.bool a0_0, .bool a0_1, .int .i64 a0_2, .int .i64 a0_3, .int .i64 a0_4, .slice A0_5 l0_5.length c0_5]) (t := 28) ?hr ?_; (case hd => rfl); (case hg => rfl); (case hr => first | (go_simp; done) | (go_simp; rfl)); intro gb310 hg w4 hbox hb; have BK310 := Aside0.mk (hbox); have GW310 := tge HB hg; have GE310 := tge HB hg; replace HB := tBs HB hb; clear hb hbox hg) | ((with_reducible refine gate_dst (N := 4) rfl ?_); (try (refine gate_guard (by rfl) ?_; dsimp only)); refine box_event ?hg (N := 4) ?hd (cs := #[.bool false, .bool false, .int .i64 0, .int .i64 0, .int .i64 0, .slice none 0 0]) (t := 28) ?hr ?_; (case hd => rfl); (case hg => rfl); (case hr => first | (go_simp; done) | (go_simp; rfl)); intro gb311 hg w5 hbox hb; have BK311 := Aside0.mk (hbox); have GW311 := tge HB hg; have GE311 := tge HB hg; replace HB := tBs HB hb; have NB310_311 := tlt BK310 hg; have NB311_310 := tgt BK310 hg; replace BK310 := tBb BK310 hb; clear hb hbox hg) | ((with_reducible refine gate_dst (N := 5) rfl ?_); (try (refine gate_guard (by rfl) ?_; dsimp only)); refine box_event ?hg (N := 5) ?hd (cs := #[.bool false, .bool false, .int .i64 0, .int .i64 0, .int .i64 0, .slice none 0 0]) (t := 28) ?hr ?_; (case hd => rfl); (case hg => rfl); (case hr => first | (go_simp; done) | (go_simp; rfl)); intro gb312 hg w6 hbox hb; have BK312 := Aside0.mk (hbox); have GW312 := tge HB hg; have GE312 := tge HB hg; replace HB := tBs HB hb; have NB310_312 := tlt BK310 hg; have NB312_310 := tgt BK310 hg; replace BK310 := tBb BK310 hb; have NB311_312 := tlt BK311 hg; have NB312_311 := tgt BK311 hg; replace BK311 := tBb BK311 hb; clear hb hbox hg))
 (try simp only [Act.put, List.setIfInBounds_toArray, List.set_cons_zero, List.set_cons_succ])
 go_cut [15] (fun v15 wc => ∃ (kq : Nat) (x15_2 : Bool), v15 = .bool x15_2 ∧ Aside0 (spec_BatchCut.j0 kq a1 x15_2 a0_0 a0_1 a0_2 a0_3 a0_4 l0_5 = some (r1, r2, r3, r4, r5, r6, r7, r8, r9, r10, r11, r12, r13)) ∧ Aside0 (kq ≤ k) ∧ Aside0 (wc.heap[gb310]? = some (.cells #[.bool a0_0, .bool a0_1, .int .i64 a0_2, .int .i64 a0_3, .int .i64 a0_4, (.slice A0_5 l0_5.length c0_5)] 28 (0, 0))) ∧ Aside0 (wc.heap[gb311]? = some (.cells #[.bool false, .bool false, .int .i64 0, .int .i64 0, .int .i64 0, (.slice none 0 0)] 28 (0, 0))) ∧ Aside0 (wc.heap[gb312]? = some (.cells #[.bool false, .bool false, .int .i64 0, .int .i64 0, .int .i64 0, (.slice none 0 0)] 28 (0, 0))) ∧ Aside0 (Below w.heap.size w wc))
 case first =>
  have H := HC3.out
  clear HC3
  replace H := tbe H
  obtain ⟨t313, A7, H⟩ := H
  by_cases c8 : t313 = true
  ·subst c8
   rw [if_pos rfl] at H
   have H' := Aside0.mk H
   clear H
   have hnb9 := NB310_311.out
   have hnc9 := NB311_310.out
   have hnb10 := NB310_312.out
   have hnc10 := NB312_310.out
   obtain ⟨hcz11_0, hcz11_1, hcz11_2, hcz11_3, hcz11_4, hcz11_5, hfz11_0, hfz11_1, hfz11_2, hfz11_3, hfz11_4, hfz11_5⟩ := cells6 BK310.out
   go_wp2_with (first | ((with_reducible refine gate_callee (f := 26) rfl ?_); refine goesL_ (some 9) rfl rfl Tryd.func26 (by kernel_rfl) rfl #[.agg #[.bool a0_0, .bool a0_1, .int .i64 a0_2, .int .i64 a0_3, .int .i64 a0_4, .slice A0_5 l0_5.length c0_5]] rfl tq ?_; (with_reducible refine (spec_BatchValid.calls k a0_0 a0_1 a0_2 a0_3 a0_4 _ _ l0_5 true _ ?side1 ?side2 A7.out).mono ?_); (case side1 => exact tC (Kd.C_below HR0_5.out HB.out)); (case side2 => exact HC0_5.out); rintro e w12 ⟨rfl, hb⟩; refine ⟨_, rfl, ?_⟩; replace BK310 := tBb BK310 hb; replace BK311 := tBb BK311 hb; replace BK312 := tBb BK312 hb; replace HB := tBs HB hb; (try clear hb); (try clear hb2); (try clear hk); (try clear hi); obtain ⟨hcz13_0, hcz13_1, hcz13_2, hcz13_3, hcz13_4, hcz13_5, hfz13_0, hfz13_1, hfz13_2, hfz13_3, hfz13_4, hfz13_5⟩ := cells6 BK310.out))
   go_meet
   case rel => exact ⟨_, ((a0_2 != 255)), tr, H', ⟨by first | omega | exact Nat.le_refl _⟩, ⟨tH BK310.out⟩, ⟨tH BK311.out⟩, ⟨tH BK312.out⟩, ⟨zb⟩⟩
  ·replace c8 := Bool.eq_false_iff.mpr c8
   subst c8
   rw [if_neg (show ¬ (false = true) by decide)] at H
   have H' := Aside0.mk H
   clear H
   have hnb14 := NB310_311.out
   have hnc14 := NB311_310.out
   have hnb15 := NB310_312.out
   have hnc15 := NB312_310.out
   obtain ⟨hcz16_0, hcz16_1, hcz16_2, hcz16_3, hcz16_4, hcz16_5, hfz16_0, hfz16_1, hfz16_2, hfz16_3, hfz16_4, hfz16_5⟩ := cells6 BK310.out
   go_wp2_with (first | ((with_reducible refine gate_callee (f := 26) rfl ?_); refine goesL_ (some 9) rfl rfl Tryd.func26 (by kernel_rfl) rfl #[.agg #[.bool a0_0, .bool a0_1, .int .i64 a0_2, .int .i64 a0_3, .int .i64 a0_4, .slice A0_5 l0_5.length c0_5]] rfl tq ?_; (with_reducible refine (spec_BatchValid.calls k a0_0 a0_1 a0_2 a0_3 a0_4 _ _ l0_5 false _ ?side1 ?side2 A7.out).mono ?_); (case side1 => exact tC (Kd.C_below HR0_5.out HB.out)); (case side2 => exact HC0_5.out); rintro e w17 ⟨rfl, hb⟩; refine ⟨_, rfl, ?_⟩; replace BK310 := tBb BK310 hb; replace BK311 := tBb BK311 hb; replace BK312 := tBb BK312 hb; replace HB := tBs HB hb; (try clear hb); (try clear hb2); (try clear hk); (try clear hi)))
   go_meet
   case rel => exact ⟨_, (true), tr, H', ⟨by first | omega | exact Nat.le_refl _⟩, ⟨tH BK310.out⟩, ⟨tH BK311.out⟩, ⟨tH BK312.out⟩, ⟨zb⟩⟩
 case rest =>
  clear HC3
  obtain ⟨kq, x15_2, rfl, HA, HJ2, BK310, BK311, BK312, HB⟩ := hcut
  cases kq with
  | zero => exact absurd HA.out (by simp [spec_BatchCut.j0])
  | succ kj2 =>
   have H := HA.out
   clear HA
   simp only [spec_BatchCut.j0] at H
   by_cases c18 : x15_2 = true
   ·subst c18
    rw [if_pos rfl] at H
    simp only [Option.some.injEq, Prod.mk.injEq] at H
    obtain ⟨rfl, rfl, rfl, rfl, rfl, rfl, rfl, rfl, rfl, rfl, rfl, rfl, rfl⟩ := H
    have hnb19 := NB311_310.out
    have hnc19 := NB310_311.out
    have hnb20 := NB311_312.out
    have hnc20 := NB312_311.out
    obtain ⟨hcz21_0, hcz21_1, hcz21_2, hcz21_3, hcz21_4, hcz21_5, hfz21_0, hfz21_1, hfz21_2, hfz21_3, hfz21_4, hfz21_5⟩ := cells6 BK311.out
    have hnb22 := NB312_310.out
    have hnc22 := NB310_312.out
    obtain ⟨hcz23_0, hcz23_1, hcz23_2, hcz23_3, hcz23_4, hcz23_5, hfz23_0, hfz23_1, hfz23_2, hfz23_3, hfz23_4, hfz23_5⟩ := cells6 BK312.out
    go_wp2
    refine bodyPost_ret (results_list (rs := [.cell 4 28, .cell 5 28, .tmp 6]) rfl (by simp) (.cell gb311 28 #[.bool false, .bool false, .int .i64 0, .int .i64 0, .int .i64 0, .slice none 0 0] (0, 0) _ rfl (tP BK311.out) Tryd.underlying28 rfl (by kernel_rfl) (.cell gb312 28 #[.bool false, .bool false, .int .i64 0, .int .i64 0, .int .i64 0, .slice none 0 0] (0, 0) _ rfl (tP BK312.out) Tryd.underlying28 rfl (by kernel_rfl) (.tmp .nil)))) rfl ?_
    exact ⟨_, _, by first | rfl | (simp [errW_none, errW_some] <;> rfl) | (simp [*, errW_none, errW_some] <;> rfl), by first | exact Kd.S_nil _ _ _ _ _ | exact Kd.N_nil _ _ _ _ _ | exact Kd.V_nil _ _ _ _ _ | exact Kd.Q_nil _ _ _ _ _ | exact Kd.R_nil _ _ _ _ _, by first | exact Kd.S_nil _ _ _ _ _ | exact Kd.N_nil _ _ _ _ _ | exact Kd.V_nil _ _ _ _ _ | exact Kd.Q_nil _ _ _ _ _ | exact Kd.R_nil _ _ _ _ _, zb⟩
   ·replace c18 := Bool.eq_false_iff.mpr c18
    subst c18
    rw [if_neg (show ¬ (false = true) by decide)] at H
    have HC24 := Aside0.mk H
    clear H
    go_upto_block 0 with (fail)
    go_cut [7] (fun v7 wc => ∃ (kq : Nat) (x7_23 : Int), v7 = .int .i64 x7_23 ∧ Aside0 (spec_BatchCut.j2 kq x7_23 a0_0 a0_1 a0_2 a0_3 a0_4 l0_5 = some (r1, r2, r3, r4, r5, r6, r7, r8, r9, r10, r11, r12, r13)) ∧ Aside0 (kq ≤ kj2) ∧ Aside0 (wc.heap[gb310]? = some (.cells #[.bool a0_0, .bool a0_1, .int .i64 a0_2, .int .i64 a0_3, .int .i64 a0_4, (.slice A0_5 l0_5.length c0_5)] 28 (0, 0))) ∧ Aside0 (wc.heap[gb311]? = some (.cells #[.bool false, .bool false, .int .i64 0, .int .i64 0, .int .i64 0, (.slice none 0 0)] 28 (0, 0))) ∧ Aside0 (wc.heap[gb312]? = some (.cells #[.bool false, .bool false, .int .i64 0, .int .i64 0, .int .i64 0, (.slice none 0 0)] 28 (0, 0))) ∧ Aside0 (Below w.heap.size w wc))
    case first =>
     have H := HC24.out
     clear HC24
     have H' := Aside0.mk H
     clear H
     go_wp2
     go_loopg [7] kj2 (fun kq v7 w' => ∃ (x7_2 : Int), v7 = .int .i64 x7_2 ∧ Aside0 (spec_BatchCut.l0 kq a1 x7_2 a0_0 a0_1 a0_2 a0_3 a0_4 l0_5 = some (r1, r2, r3, r4, r5, r6, r7, r8, r9, r10, r11, r12, r13)) ∧ Aside0 (kq ≤ kj2) ∧ Aside0 (w'.heap[gb310]? = some (.cells #[.bool a0_0, .bool a0_1, .int .i64 a0_2, .int .i64 a0_3, .int .i64 a0_4, (.slice A0_5 l0_5.length c0_5)] 28 (0, 0))) ∧ Aside0 (w'.heap[gb311]? = some (.cells #[.bool false, .bool false, .int .i64 0, .int .i64 0, .int .i64 0, (.slice none 0 0)] 28 (0, 0))) ∧ Aside0 (w'.heap[gb312]? = some (.cells #[.bool false, .bool false, .int .i64 0, .int .i64 0, .int .i64 0, (.slice none 0 0)] 28 (0, 0))) ∧ Aside0 (Below w.heap.size w w'))
     case atStart => exact ⟨(0), tr, H', ⟨Nat.le_refl _⟩, ⟨tH BK310.out⟩, ⟨tH BK311.out⟩, ⟨tH BK312.out⟩, ⟨zb⟩⟩
     case round =>
      clear H'
      try clear c18
      obtain ⟨x7_2, rfl, HA, HK2, BK310, BK311, BK312, HB⟩ := hrel
      cases gk with
      | zero => exact absurd HA.out (by simp [spec_BatchCut.l0])
      | succ k2 =>
       have H := HA.out
       clear HA
       simp only [spec_BatchCut.l0] at H
       by_cases c25 : x7_2 < (l0_5.length : Int)
       ·rw [if_pos c25] at H
        have c25b0 : decide (x7_2 < (l0_5.length : Int)) = true := decide_eq_true c25
        clear c25
        (first | rw [c25b0] | (simp only [i64_w, i32_w]; rw [c25b0]) | skip)
        by_cases c26 : 0 ≤ x7_2
        ·rw [if_pos c26] at H
         have c26b0 : decide (0 ≤ x7_2) = true := decide_eq_true c26
         clear c26
         by_cases c27 : ((rd_T62 l0_5 x7_2).f0) < a1
         ·rw [if_pos c27] at H
          have c27b0 : decide (((rd_T62 l0_5 x7_2).f0) < a1) = true := decide_eq_true c27
          clear c27
          have H' := Aside0.mk H
          clear H
          have hnb28 := NB310_311.out
          have hnc28 := NB311_310.out
          have hnb29 := NB310_312.out
          have hnc29 := NB312_310.out
          obtain ⟨hcz30_0, hcz30_1, hcz30_2, hcz30_3, hcz30_4, hcz30_5, hfz30_0, hfz30_1, hfz30_2, hfz30_3, hfz30_4, hfz30_5⟩ := cells6 BK310.out
          have p314 : 0 ≤ (x7_2 : Int) := td
          have q314 : x7_2 < (l0_5.length : Int) := td
          obtain ⟨ad314, A314_3, c314_3, A314_5, c314_5, e314, hx314_0, hx314_1, hx314_2, hx314_3, hx314_4, hx314_5, hl314_3, hi314_3, hl314_5, hi314_5⟩ := at_T62 HR0_5.out x7_2 p314 q314
          cases e314
          replace hx314_0 := tcl HB hx314_0
          replace hx314_1 := tcl HB hx314_1
          replace hx314_2 := tcl HB hx314_2
          replace hx314_3 := tcl HB hx314_3
          replace hx314_4 := tcl HB hx314_4
          replace hx314_5 := tcl HB hx314_5
          have HR314_3 := Aside0.mk hi314_3
          have HC314_3 := Aside0.mk hl314_3
          clear hi314_3 hl314_3
          have HR314_5 := Aside0.mk hi314_5
          have HC314_5 := Aside0.mk hl314_5
          clear hi314_5 hl314_5
          replace p314 := eq_true p314
          replace q314 := eq_true q314
          go_wp2
          go_roundg k2
          case measure => have := HJ2.out; have := HK2.out; omega
          case rel => exact ⟨(wrap64 (x7_2 + 1)), tr, H', ⟨by have := HJ2.out; have := HK2.out; omega⟩, ⟨tH BK310.out⟩, ⟨tH BK311.out⟩, ⟨tH BK312.out⟩, ⟨zb⟩⟩
         ·rw [if_neg c27] at H
          have c27b0 : decide (((rd_T62 l0_5 x7_2).f0) < a1) = false := decide_eq_false c27
          clear c27
          have H' := Aside0.mk H
          clear H
          have hnb31 := NB310_311.out
          have hnc31 := NB311_310.out
          have hnb32 := NB310_312.out
          have hnc32 := NB312_310.out
          obtain ⟨hcz33_0, hcz33_1, hcz33_2, hcz33_3, hcz33_4, hcz33_5, hfz33_0, hfz33_1, hfz33_2, hfz33_3, hfz33_4, hfz33_5⟩ := cells6 BK310.out
          have p314 : 0 ≤ (x7_2 : Int) := td
          have q314 : x7_2 < (l0_5.length : Int) := td
          obtain ⟨ad314, A314_3, c314_3, A314_5, c314_5, e314, hx314_0, hx314_1, hx314_2, hx314_3, hx314_4, hx314_5, hl314_3, hi314_3, hl314_5, hi314_5⟩ := at_T62 HR0_5.out x7_2 p314 q314
          cases e314
          replace hx314_0 := tcl HB hx314_0
          replace hx314_1 := tcl HB hx314_1
          replace hx314_2 := tcl HB hx314_2
          replace hx314_3 := tcl HB hx314_3
          replace hx314_4 := tcl HB hx314_4
          replace hx314_5 := tcl HB hx314_5
          have HR314_3 := Aside0.mk hi314_3
          have HC314_3 := Aside0.mk hl314_3
          clear hi314_3 hl314_3
          have HR314_5 := Aside0.mk hi314_5
          have HC314_5 := Aside0.mk hl314_5
          clear hi314_5 hl314_5
          replace p314 := eq_true p314
          replace q314 := eq_true q314
          go_wp2
          go_meet
          case rel => exact ⟨_, (x7_2), tr, H', ⟨by have := HJ2.out; have := HK2.out; first | omega | exact Nat.le_refl _⟩, ⟨tH BK310.out⟩, ⟨tH BK311.out⟩, ⟨tH BK312.out⟩, ⟨zb⟩⟩
        ·rw [if_neg c26] at H
         exact absurd H (by simp)
       ·rw [if_neg c25] at H
        have c25b0 : decide (x7_2 < (l0_5.length : Int)) = false := decide_eq_false c25
        clear c25
        (first | rw [c25b0] | (simp only [i64_w, i32_w]; rw [c25b0]) | skip)
        have H' := Aside0.mk H
        clear H
        have hnb34 := NB310_311.out
        have hnc34 := NB311_310.out
        have hnb35 := NB310_312.out
        have hnc35 := NB312_310.out
        obtain ⟨hcz36_0, hcz36_1, hcz36_2, hcz36_3, hcz36_4, hcz36_5, hfz36_0, hfz36_1, hfz36_2, hfz36_3, hfz36_4, hfz36_5⟩ := cells6 BK310.out
        go_wp2
        go_meet
        case rel => exact ⟨_, (x7_2), tr, H', ⟨by have := HJ2.out; have := HK2.out; first | omega | exact Nat.le_refl _⟩, ⟨tH BK310.out⟩, ⟨tH BK311.out⟩, ⟨tH BK312.out⟩, ⟨zb⟩⟩
    case rest =>
     clear HC24
     try clear c18
     obtain ⟨kq, x7_23, rfl, HA, HJ23, BK310, BK311, BK312, HB⟩ := hcut
     cases kq with
     | zero => exact absurd HA.out (by simp [spec_BatchCut.j2])
     | succ kj23 =>
      have H := HA.out
      clear HA
      simp only [spec_BatchCut.j2] at H
      have HC37 := Aside0.mk H
      clear H
      go_upto_region 6 with (fail)
      go_cut [43] (fun v43 wc => ∃ (kq : Nat) (x43_36 : Bool), v43 = .bool x43_36 ∧ Aside0 (spec_BatchCut.j3 kq x7_23 x43_36 a0_0 a0_1 a0_2 a0_3 a0_4 l0_5 = some (r1, r2, r3, r4, r5, r6, r7, r8, r9, r10, r11, r12, r13)) ∧ Aside0 (kq ≤ kj23) ∧ Aside0 (wc.heap[gb310]? = some (.cells #[.bool a0_0, .bool a0_1, .int .i64 a0_2, .int .i64 a0_3, .int .i64 a0_4, (.slice A0_5 l0_5.length c0_5)] 28 (0, 0))) ∧ Aside0 (wc.heap[gb311]? = some (.cells #[.bool false, .bool false, .int .i64 0, .int .i64 0, .int .i64 0, (.slice none 0 0)] 28 (0, 0))) ∧ Aside0 (wc.heap[gb312]? = some (.cells #[.bool false, .bool false, .int .i64 0, .int .i64 0, .int .i64 0, (.slice none 0 0)] 28 (0, 0))) ∧ Aside0 (Below w.heap.size w wc))
      case first =>
       have H := HC37.out
       clear HC37
       by_cases c38 : x7_23 = 0
       ·rw [if_pos c38] at H
        have c38b0 : (x7_23 == 0) = true := beq_iff_eq.mpr c38
        have c38b1 : (x7_23 != 0) = false := bne_eq_false_iff_eq.mpr c38
        clear c38
        (first | rw [c38b0] | (simp only [i64_w, i32_w]; rw [c38b0]) | skip)
        have H' := Aside0.mk H
        clear H
        go_wp2
        go_meet
        case rel => exact ⟨_, (true), tr, H', ⟨by have := HJ2.out; have := HJ23.out; first | omega | exact Nat.le_refl _⟩, ⟨tH BK310.out⟩, ⟨tH BK311.out⟩, ⟨tH BK312.out⟩, ⟨zb⟩⟩
       ·rw [if_neg c38] at H
        have c38b0 : (x7_23 == 0) = false := beq_eq_false_iff_ne.mpr c38
        have c38b1 : (x7_23 != 0) = true := bne_iff_ne.mpr c38
        (first | rw [c38b0] | (simp only [i64_w, i32_w]; rw [c38b0]) | skip)
        have H' := Aside0.mk H
        clear H
        have hnb39 := NB310_311.out
        have hnc39 := NB311_310.out
        have hnb40 := NB310_312.out
        have hnc40 := NB312_310.out
        obtain ⟨hcz41_0, hcz41_1, hcz41_2, hcz41_3, hcz41_4, hcz41_5, hfz41_0, hfz41_1, hfz41_2, hfz41_3, hfz41_4, hfz41_5⟩ := cells6 BK310.out
        go_wp2
        go_meet
        case rel => exact ⟨_, ((x7_23 == (l0_5.length : Int))), tr, H', ⟨by have := HJ2.out; have := HJ23.out; first | omega | exact Nat.le_refl _⟩, ⟨tH BK310.out⟩, ⟨tH BK311.out⟩, ⟨tH BK312.out⟩, ⟨zb⟩⟩
      case rest =>
       clear HC37
       try clear c18
       obtain ⟨kq, x43_36, rfl, HA, HJ36, BK310, BK311, BK312, HB⟩ := hcut
       cases kq with
       | zero => exact absurd HA.out (by simp [spec_BatchCut.j3])
       | succ kj36 =>
        have H := HA.out
        clear HA
        simp only [spec_BatchCut.j3] at H
        by_cases c42 : x43_36 = true
        ·subst c42
         rw [if_pos rfl] at H
         simp only [Option.some.injEq, Prod.mk.injEq] at H
         obtain ⟨rfl, rfl, rfl, rfl, rfl, rfl, rfl, rfl, rfl, rfl, rfl, rfl, rfl⟩ := H
         have hnb43 := NB311_310.out
         have hnc43 := NB310_311.out
         have hnb44 := NB311_312.out
         have hnc44 := NB312_311.out
         obtain ⟨hcz45_0, hcz45_1, hcz45_2, hcz45_3, hcz45_4, hcz45_5, hfz45_0, hfz45_1, hfz45_2, hfz45_3, hfz45_4, hfz45_5⟩ := cells6 BK311.out
         have hnb46 := NB312_310.out
         have hnc46 := NB310_312.out
         obtain ⟨hcz47_0, hcz47_1, hcz47_2, hcz47_3, hcz47_4, hcz47_5, hfz47_0, hfz47_1, hfz47_2, hfz47_3, hfz47_4, hfz47_5⟩ := cells6 BK312.out
         go_wp2
         refine bodyPost_ret (results_list (rs := [.cell 4 28, .cell 5 28, .tmp 6]) rfl (by simp) (.cell gb311 28 #[.bool false, .bool false, .int .i64 0, .int .i64 0, .int .i64 0, .slice none 0 0] (0, 0) _ rfl (tP BK311.out) Tryd.underlying28 rfl (by kernel_rfl) (.cell gb312 28 #[.bool false, .bool false, .int .i64 0, .int .i64 0, .int .i64 0, .slice none 0 0] (0, 0) _ rfl (tP BK312.out) Tryd.underlying28 rfl (by kernel_rfl) (.tmp .nil)))) rfl ?_
         exact ⟨_, _, by first | rfl | (simp [errW_none, errW_some] <;> rfl) | (simp [*, errW_none, errW_some] <;> rfl), by first | exact Kd.S_nil _ _ _ _ _ | exact Kd.N_nil _ _ _ _ _ | exact Kd.V_nil _ _ _ _ _ | exact Kd.Q_nil _ _ _ _ _ | exact Kd.R_nil _ _ _ _ _, by first | exact Kd.S_nil _ _ _ _ _ | exact Kd.N_nil _ _ _ _ _ | exact Kd.V_nil _ _ _ _ _ | exact Kd.Q_nil _ _ _ _ _ | exact Kd.R_nil _ _ _ _ _, zb⟩
        ·replace c42 := Bool.eq_false_iff.mpr c42
         subst c42
         rw [if_neg (show ¬ (false = true) by decide)] at H
         by_cases c48 : 0 ≤ x7_23
         ·rw [if_pos c48] at H
          have c48b0 := eq_true c48
          have c48b1 : decide (0 ≤ x7_23) = true := decide_eq_true c48
          clear c48
          by_cases c49 : x7_23 ≤ (l0_5.length : Int)
          ·rw [if_pos c49] at H
           have c49b0 := eq_true c49
           have c49b1 : decide (x7_23 ≤ (l0_5.length : Int)) = true := decide_eq_true c49
           clear c49
           obtain ⟨y315, hy315⟩ : ∃ y_ : List (S62), y_ = (l0_5.take (x7_23 : Int).toNat) := ⟨_, rfl⟩
           replace H : ((spec_l31Free.f kj36 a0_0 y315).bind fun bt319 => ((spec_l31Free.f kj36 a0_0 (l0_5.drop (x7_23 : Int).toNat)).bind fun bt331 => (some (bt319.1, bt319.2.1, bt319.2.2.1, bt319.2.2.2.1, bt319.2.2.2.2.1, bt319.2.2.2.2.2, bt331.1, bt331.2.1, bt331.2.2.1, bt331.2.2.2.1, bt331.2.2.2.2.1, bt331.2.2.2.2.2, true)))) = some (r1, r2, r3, r4, r5, r6, r7, r8, r9, r10, r11, r12, r13) := by first | (rw [hy315]; with_reducible exact H) | (have H2_ := (Option.bind_some _ _).symm.trans H; rw [hy315]; with_reducible exact H2_) | (have H2_ := (Option.bind_some _ _).symm.trans H; with_reducible exact H2_) | with_reducible exact H | (rw [hy315]; exact H) | exact H
           have Ny315 := Aside0.mk hy315
           clear hy315
           replace H := tbe H
           obtain ⟨⟨t319, t320, t321, t322, t323, t324⟩, A50, H⟩ := H
           dsimp only at H
           have c51b0 := eq_true (td : 0 ≤ x7_23)
           have c52b0 := eq_true (td : x7_23 ≤ (l0_5.length : Int))
           obtain ⟨y327, hy327⟩ : ∃ y_ : List (S62), y_ = (l0_5.drop (x7_23 : Int).toNat) := ⟨_, rfl⟩
           replace H : ((spec_l31Free.f kj36 a0_0 y327).bind fun bt331 => (some (t319, t320, t321, t322, t323, t324, bt331.1, bt331.2.1, bt331.2.2.1, bt331.2.2.2.1, bt331.2.2.2.2.1, bt331.2.2.2.2.2, true))) = some (r1, r2, r3, r4, r5, r6, r7, r8, r9, r10, r11, r12, r13) := by first | (rw [hy327]; with_reducible exact H) | (have H2_ := (Option.bind_some _ _).symm.trans H; rw [hy327]; with_reducible exact H2_) | (have H2_ := (Option.bind_some _ _).symm.trans H; with_reducible exact H2_) | with_reducible exact H | (rw [hy327]; exact H) | exact H
           have Ny327 := Aside0.mk hy327
           clear hy327
           replace H := tbe H
           obtain ⟨⟨t331, t332, t333, t334, t335, t336⟩, A53, H⟩ := H
           dsimp only at H
           simp only [Option.some.injEq, Prod.mk.injEq] at H
           obtain ⟨rfl, rfl, rfl, rfl, rfl, rfl, rfl, rfl, rfl, rfl, rfl, rfl, rfl⟩ := H
           try go_wp2
           replace BK310 := Aside0.mk (blk_drew BK310.out)
           replace BK311 := Aside0.mk (blk_drew BK311.out)
           replace BK312 := Aside0.mk (blk_drew BK312.out)
           replace HB := Aside0.mk (below_drew1 HB.out)
           have q55 : (x7_23 : Int) ≤ ((l0_5.length : Int) : Int) := td
           obtain ⟨i055, hi055, _, hsz55, _⟩ := info_parts info62
           have hroom55 : l0_5.length ≤ c0_5 := HC0_5.out
           have hC55 : Kd.C k62 _ A0_5 l0_5.length l0_5 := HR0_5.out
           have hcut55 := cut_to (P := Tryd.prog) 26 62 .i64 Tryd.underlying26 hi055 A0_5 l0_5.length c0_5 x7_23 (td) q55 hroom55
           have hr55 := Kd.C_take (m := (x7_23 : Int).toNat) hC55 (by omega)
           have hy55 : y315.length = (x7_23 : Int).toNat := (by rw [Ny315.out, List.length_take]; omega)
           rw [← Ny315.out] at hr55
           rw [← hy55] at hcut55
           have HR318 := Aside0.mk hr55
           have HC318 := Aside0.mk (show y315.length ≤ c0_5 from by omega)
           clear hr55 hC55 hroom55 hi055 hsz55
           have KY55 := Aside0.mk hy55
           clear hy55
           replace q55 := eq_true q55
           have q56 : (x7_23 : Int) ≤ ((l0_5.length : Int) : Int) := td
           obtain ⟨i056, hi056, _, hsz56, _⟩ := info_parts info62
           have hroom56 : l0_5.length ≤ c0_5 := HC0_5.out
           have hC56 : Kd.C k62 _ A0_5 l0_5.length l0_5 := HR0_5.out
           have q056 : (0 : Int) ≤ (x7_23 : Int) := td
           have hcut56 := cut_from (P := Tryd.prog) 26 62 .i64 Tryd.underlying26 hi056 6 hsz56 A0_5 l0_5.length c0_5 x7_23 q056 q56
           have hr56 := Kd.C_drop (m := (x7_23 : Int).toNat) (c := c0_5) hC56 (by omega) hroom56
           obtain ⟨A56, hA56⟩ : ∃ A_, A_ = (if c0_5 = (x7_23 : Int).toNat then A0_5 else (A0_5 : Option Addr).map (·.add ((x7_23 : Int).toNat * 6))) := ⟨_, rfl⟩
           obtain ⟨c56, hc56⟩ : ∃ c_, c_ = c0_5 - (x7_23 : Int).toNat := ⟨_, rfl⟩
           have hy56 : y327.length = l0_5.length - (x7_23 : Int).toNat := (by rw [Ny327.out, List.length_drop] <;> omega)
           rw [show (l0_5).drop (x7_23 : Int).toNat = y327 from Ny327.out.symm] at hr56
           replace hr56 : Kd.C k62 _ A56 y327.length y327 := (by rw [hA56]; exact hr56)
           rw [← hy56, ← hA56, ← hc56] at hcut56
           have HR330 := Aside0.mk hr56
           have HC330 := Aside0.mk (show y327.length ≤ c56 from by rw [hy56, hc56]; exact Nat.sub_le_sub_right hroom56 _)
           clear hr56 hC56 hroom56 hi056 hsz56 hc56
           have KY56 := Aside0.mk hy56
           have KA56 := Aside0.mk hA56
           clear hy56 hA56
           replace q56 := eq_true q56
           refine start_ (n := 17) (S := fun w' => w'.cell? ⟨gb310, 0, none⟩ = some (.bool a0_0) ∧ w'.cell? ⟨gb310, 1, none⟩ = some (.bool a0_1) ∧ w'.cell? ⟨gb310, 2, none⟩ = some (.int .i64 a0_2) ∧ w'.cell? ⟨gb310, 3, none⟩ = some (.int .i64 a0_3) ∧ w'.cell? ⟨gb310, 4, none⟩ = some (.int .i64 a0_4) ∧ w'.cell? ⟨gb310, 5, none⟩ = some (.slice A0_5 l0_5.length c0_5)) (ds := []) #[false, false, false, false, false, false, false, false, false, false, false, false, false, false, false, false, false] (by kernel_rfl) rfl rfl ⟨(blk_cell BK310.out 0).trans rfl, (blk_cell BK310.out 1).trans rfl, (blk_cell BK310.out 2).trans rfl, (blk_cell BK310.out 3).trans rfl, (blk_cell BK310.out 4).trans rfl, (blk_cell BK310.out 5).trans rfl⟩ (fun hHeld => ?_); refine with_tabW spec_BatchCut.tab8 spec_BatchCut.bits8 (fun HT_ HW_ => ?_)
           generalize wc.drew = w54 at BK310 BK311 BK312 HB HR318 HR330 hHeld ⊢
           refine tpu 0 (some 46) #[true, false, false, false, false, false, false, false, false, false, false, false, false, false, false, false, false] ?_
           refine tpu 2 (some 48) #[true, false, true, false, false, false, false, false, false, false, false, false, false, false, false, false, false] ?_
           refine tpu 4 (some 50) #[true, false, true, false, true, false, false, false, false, false, false, false, false, false, false, false, false] ?_
           refine tpu 7 (some 53) #[true, false, true, false, true, false, false, true, false, false, false, false, false, false, false, false, false] ?_
           refine tpu 9 (some 55) #[true, false, true, false, true, false, false, true, false, true, false, false, false, false, false, false, false] ?_
           refine tpu 11 (some 57) #[true, false, true, false, true, false, false, true, false, true, false, true, false, false, false, false, false] ?_
           refine tta 1 (some 47) #[true, true, true, false, true, false, false, true, false, true, false, true, false, false, false, false, false] hHeld ?_ (hy := by rintro w' ⟨s0, s1, s2, s3, s4, s5⟩; go_simp; with_reducible rfl)
           refine tta 3 (some 49) #[true, true, true, true, true, false, false, true, false, true, false, true, false, false, false, false, false] hHeld ?_ (hy := by rintro w' ⟨s0, s1, s2, s3, s4, s5⟩; go_simp; with_reducible rfl)
           refine tpu 5 (some 51) #[true, true, true, true, true, true, false, true, false, true, false, true, false, false, false, false, false] ?_
           refine tta 8 (some 54) #[true, true, true, true, true, true, false, true, true, true, false, true, false, false, false, false, false] hHeld ?_ (hy := by rintro w' ⟨s0, s1, s2, s3, s4, s5⟩; go_simp; with_reducible rfl)
           refine tta 10 (some 56) #[true, true, true, true, true, true, false, true, true, true, true, true, false, false, false, false, false] hHeld ?_ (hy := by rintro w' ⟨s0, s1, s2, s3, s4, s5⟩; go_simp; with_reducible rfl)
           refine tpu 12 (some 58) #[true, true, true, true, true, true, false, true, true, true, true, true, true, false, false, false, false] ?_
           refine one_ (i := 6) (N := some 52) #[true, true, true, true, true, true, true, true, true, true, true, true, true, false, false, false, false] rfl rfl (one_of HT_.out (by kernel_rfl)) (by decide) (fun K hK => ?_)
           refine goes_ Tryd.func27 (by kernel_rfl) rfl #[.bool a0_0, .slice A0_5 y315.length c0_5] (by rfl) rfl rfl tq ?_
           with_reducible refine (spec_l31Free.calls kj36 a0_0 _ _ y315 t319 t320 t321 t322 t323 t324 _ ?side1 ?side2 A50.out).mono ?_
           (case side1 => exact tC (Kd.C_below HR318.out HB.out))
           (case side2 => exact HC318.out)
           rintro e w57 ⟨v325, rfl, ho0, hb⟩
           refine ⟨_, rfl, ?_⟩
           have HO326 := tSl ho0 HB
           replace BK310 := tBb BK310 hb
           replace BK311 := tBb BK311 hb
           replace BK312 := tBb BK312 hb
           replace HB := tBs HB hb
           (try clear hb)
           (try clear hb2)
           (try clear hk)
           (try clear hi)
           (try clear ho0)
           refine hK.out _ _ ⟨(blk_cell BK310.out 0).trans rfl, (blk_cell BK310.out 1).trans rfl, (blk_cell BK310.out 2).trans rfl, (blk_cell BK310.out 3).trans rfl, (blk_cell BK310.out 4).trans rfl, (blk_cell BK310.out 5).trans rfl⟩ (fun hHeld => ?_)
           clear hK K
           refine tnm (some 52) ?_
           refine one_ (i := 13) (N := some 59) #[true, true, true, true, true, true, true, true, true, true, true, true, true, true, false, false, false] rfl rfl (one_of HT_.out (by kernel_rfl)) (by decide) (fun K hK => ?_)
           refine goes_ Tryd.func27 (by kernel_rfl) rfl #[.bool a0_0, .slice A56 y327.length c56] (by rfl) rfl rfl tq ?_
           with_reducible refine (spec_l31Free.calls kj36 a0_0 _ _ y327 t331 t332 t333 t334 t335 t336 _ ?side1 ?side2 A53.out).mono ?_
           (case side1 => exact tC (Kd.C_below HR330.out HB.out))
           (case side2 => exact HC330.out)
           rintro e w58 ⟨v337, rfl, ho0, hb⟩
           refine ⟨_, rfl, ?_⟩
           have HO338 := Aside0.mk (Kd.S_lower (Kd.S_new' ho0 (Kd.S_lt (tS HO326.out))) (below_size zb))
           replace HO326 := Aside0.mk (Kd.S_elder' (tS HO326.out) (Kd.S_base ho0) hb)
           replace BK310 := tBb BK310 hb
           replace BK311 := tBb BK311 hb
           replace BK312 := tBb BK312 hb
           replace HB := tBs HB hb
           (try clear hb)
           (try clear hb2)
           (try clear hk)
           (try clear hi)
           (try clear ho0)
           obtain ⟨Ao64, co64, eo64⟩ := Kd.S_slice HO326.out
           (first | subst eo64 | (injection eo64 with f1_ f2_ f3_; have f4_ := f1_.symm; have f5_ := f3_.symm; clear f1_ f2_ f3_; subst f4_; subst f5_))
           obtain ⟨Ao71, co71, eo71⟩ := Kd.S_slice HO338.out
           (first | subst eo71 | (injection eo71 with f1_ f2_ f3_; have f4_ := f1_.symm; have f5_ := f3_.symm; clear f1_ f2_ f3_; subst f4_; subst f5_))
           refine hK.out _ _ ⟨(blk_cell BK310.out 0).trans rfl, (blk_cell BK310.out 1).trans rfl, (blk_cell BK310.out 2).trans rfl, (blk_cell BK310.out 3).trans rfl, (blk_cell BK310.out 4).trans rfl, (blk_cell BK310.out 5).trans rfl⟩ (fun hHeld => ?_)
           clear hK K
           refine tnm (some 59) ?_
           refine one_ (i := 14) (N := none) #[true, true, true, true, true, true, true, true, true, true, true, true, true, true, true, false, false] rfl rfl (one_of HT_.out (by kernel_rfl)) (by decide) (fun K hK => ?_)
           have hs59 : w58.cell? ⟨gb311, 0, none⟩ = some (.bool false) := (blk_cell BK311.out 0).trans rfl
           have hfs59 := blk_frozen BK311.out 0
           have hns59_0 := NB310_311.out
           have hns59_2 := NB312_311.out
           have hms59_0 := NB311_310.out
           have hms59_2 := NB311_312.out
           have hs60 : w58.cell? ⟨gb311, 1, none⟩ = some (.bool false) := (blk_cell BK311.out 1).trans rfl
           have hfs60 := blk_frozen BK311.out 1
           have hs61 : w58.cell? ⟨gb311, 2, none⟩ = some (.int .i64 0) := (blk_cell BK311.out 2).trans rfl
           have hfs61 := blk_frozen BK311.out 2
           have hs62 : w58.cell? ⟨gb311, 3, none⟩ = some (.int .i64 0) := (blk_cell BK311.out 3).trans rfl
           have hfs62 := blk_frozen BK311.out 3
           have hs63 : w58.cell? ⟨gb311, 4, none⟩ = some (.int .i64 0) := (blk_cell BK311.out 4).trans rfl
           have hfs63 := blk_frozen BK311.out 4
           have hs65 : w58.cell? ⟨gb311, 5, none⟩ = some (.slice none 0 0) := (blk_cell BK311.out 5).trans rfl
           have hfs65 := blk_frozen BK311.out 5
           refine tsk ?_
           refine hK.out _ _ ⟨(tcg NB310_311.out hHeld.1), (tcg NB310_311.out hHeld.2.1), (tcg NB310_311.out hHeld.2.2.1), (tcg NB310_311.out hHeld.2.2.2.1), (tcg NB310_311.out hHeld.2.2.2.2.1), (tcg NB310_311.out hHeld.2.2.2.2.2)⟩ (fun hHeld => ?_)
           clear hK K
           refine one_ (i := 15) (N := none) #[true, true, true, true, true, true, true, true, true, true, true, true, true, true, true, true, false] rfl rfl (one_of HT_.out (by kernel_rfl)) (by decide) (fun K hK => ?_)
           have hs66 : w58.cell? ⟨gb312, 0, none⟩ = some (.bool false) := (blk_cell BK312.out 0).trans rfl
           have hfs66 := blk_frozen BK312.out 0
           have hns66_0 := NB310_312.out
           have hns66_1 := NB311_312.out
           have hms66_0 := NB312_310.out
           have hms66_1 := NB312_311.out
           have hs67 : w58.cell? ⟨gb312, 1, none⟩ = some (.bool false) := (blk_cell BK312.out 1).trans rfl
           have hfs67 := blk_frozen BK312.out 1
           have hs68 : w58.cell? ⟨gb312, 2, none⟩ = some (.int .i64 0) := (blk_cell BK312.out 2).trans rfl
           have hfs68 := blk_frozen BK312.out 2
           have hs69 : w58.cell? ⟨gb312, 3, none⟩ = some (.int .i64 0) := (blk_cell BK312.out 3).trans rfl
           have hfs69 := blk_frozen BK312.out 3
           have hs70 : w58.cell? ⟨gb312, 4, none⟩ = some (.int .i64 0) := (blk_cell BK312.out 4).trans rfl
           have hfs70 := blk_frozen BK312.out 4
           have hs72 : w58.cell? ⟨gb312, 5, none⟩ = some (.slice none 0 0) := (blk_cell BK312.out 5).trans rfl
           have hfs72 := blk_frozen BK312.out 5
           refine tsk ?_
           refine hK.out _ _ ⟨(tcg NB310_312.out hHeld.1), (tcg NB310_312.out hHeld.2.1), (tcg NB310_312.out hHeld.2.2.1), (tcg NB310_312.out hHeld.2.2.2.1), (tcg NB310_312.out hHeld.2.2.2.2.1), (tcg NB310_312.out hHeld.2.2.2.2.2)⟩ (fun hHeld => ?_)
           clear hK K
           refine tpu 16 (some 6) #[true, true, true, true, true, true, true, true, true, true, true, true, true, true, true, true, true] ?_
           refine done_ (done_of HT_.out (by kernel_rfl)) ?_
           try go_wp2
           refine bodyPost_ret (results_list (rs := [.cell 4 28, .cell 5 28, .tmp 6]) rfl (by simp) (.cell gb311 28 #[.bool t319, .bool t320, .int .i64 t321, .int .i64 t322, .int .i64 t323, .slice Ao64 t324.length co64] (0, 0) _ rfl (tP BK311.out) Tryd.underlying28 rfl (by kernel_rfl) (.cell gb312 28 #[.bool t331, .bool t332, .int .i64 t333, .int .i64 t334, .int .i64 t335, .slice Ao71 t336.length co71] (0, 0) _ rfl (tP BK312.out) Tryd.underlying28 rfl (by kernel_rfl) (.tmp .nil)))) rfl ?_
           exact ⟨_, _, by first | rfl | (simp [errW_none, errW_some] <;> rfl) | (simp [*, errW_none, errW_some] <;> rfl), tSm (Kd.S_types (Kd.S_types HO326.out BK311.out (by decide)) BK312.out (by decide)), tSm (Kd.S_types (Kd.S_types HO338.out BK311.out (by decide)) BK312.out (by decide)), zb⟩
          ·rw [if_neg c49] at H
           exact absurd H (by simp)
         ·rw [if_neg c48] at H
          exact absurd H (by simp)

end Go.Proofs.YtfjkpdhldeopaaaDoor.G

namespace Go.Proofs.YtfjkpdhldeopaaaDoor.G
open Go.RowKit Go.Proofs.YtfjkpdhldeopaaaDoorW.PrintWords Go.Proofs.YtfjkpdhldeopaaaDoorW.PrintLast Go.Proofs.YtfjkpdhldeopaaaDoorW.PrintMore
set_option linter.unusedVariables false
set_option linter.unusedSimpArgs false
structure FactsBC (k : Nat) (a : S24) (o t : Int) (x0 g0 g1 : S28) (ok : Bool) : Prop where
  s0 : laws_szBatch.f k a.f0 a.f1 a.f2 a.f3 a.f4 a.f5 1048576 = some t
  t0 : 0 ≤ t
  c0 : laws_toBatch.f k a.f0 a.f1 a.f2 a.f3 a.f4 a.f5 = some (x0.f0, x0.f1, x0.f2, x0.f3, x0.f4, x0.f5)
  sj : spec_BatchCut.f k x0.f0 x0.f1 x0.f2 x0.f3 x0.f4 x0.f5 o = some (g0.f0, g0.f1, g0.f2, g0.f3, g0.f4, g0.f5, g1.f0, g1.f1, g1.f2, g1.f3, g1.f4, g1.f5, ok)
  ij : impl_BatchCut.f k x0.f0 x0.f1 x0.f2 x0.f3 x0.f4 x0.f5 o = some (g0.f0, g0.f1, g0.f2, g0.f3, g0.f4, g0.f5, g1.f0, g1.f1, g1.f2, g1.f3, g1.f4, g1.f5, ok)
  e0 : laws_eqBatch.f k g0.f0 g0.f1 g0.f2 g0.f3 g0.f4 g0.f5 g0.f0 g0.f1 g0.f2 g0.f3 g0.f4 g0.f5 = some true
  e1 : laws_eqBatch.f k g1.f0 g1.f1 g1.f2 g1.f3 g1.f4 g1.f5 g1.f0 g1.f1 g1.f2 g1.f3 g1.f4 g1.f5 = some true
  ex : laws_eqBatch.f k x0.f0 x0.f1 x0.f2 x0.f3 x0.f4 x0.f5 x0.f0 x0.f1 x0.f2 x0.f3 x0.f4 x0.f5 = some true
  h0 : laws_heldBatch.f k g0.f0 g0.f1 g0.f2 g0.f3 g0.f4 (mkRow 1 g0.f5) 1 = some (1 + (totR g0.f5 : Int))
  h1 : laws_heldBatch.f k g1.f0 g1.f1 g1.f2 g1.f3 g1.f4 (mkRow (1 + (totR g0.f5 : Int)) g1.f5) (1 + (totR g0.f5 : Int)) = some (1 + (totR g0.f5 : Int) + (totR g1.f5 : Int))
  bx : (totR x0.f5 : Int) ≤ 100000000000000
  b0 : (totR g0.f5 : Int) ≤ 100000000000000
  b1 : (totR g1.f5 : Int) ≤ 100000000000000
set_option maxRecDepth 1000000 in
set_option maxHeartbeats 4000000 in
theorem exBC [ErrA] (k : Nat) (a : S24) (A : Option Addr) (c : Nat) (o t : Int) (x0 g0 g1 : S28) (ok : Bool) (w : World) (hE : ErrOk [1] w) (hr : Kd.C k71 w A a.f5.length a.f5) (hc : a.f5.length ≤ c) (h : FactsBC k a o t x0 g0 g1 ok) :
    Calls Tryd.prog 4 #[BatV a.f0 a.f1 a.f2 a.f3 a.f4 (.slice A a.f5.length c), .int .i64 o] w fun e w' => e = .returned (.bool true) ∧ Below w.heap.size w w' := by
  have HE := Aside0.mk hE
  have HR := Aside0.mk hr
  have HC := Aside0.mk hc
  have HF := Aside0.mk h
  have t0 := h.t0
  have HS := Aside0.mk (St.nil w)
  clear hE hr hc h
  go_enter Tryd.func4, Tryd.ntmps4
  go_upto_region 6 with (first
    | ((with_reducible refine gate_dst (N := 2) rfl ?_); refine w_box HS rfl rfl (by go_simp; try rfl) ?_; intro g_b2 W h_; clear HS; skip; have HS := h_; clear h_; obtain ⟨f_b2, z_b2⟩ := HS.out.cells 0 rfl)
    | (go_at_call 7; with_reducible refine (laws_szBatch.calls k a.f0 a.f1 a.f2 a.f3 a.f4 A c a.f5 1048576 t _ (Kd.C_below HR.out HS.out.below) HC.out HF.out.s0).mono ?_; rintro e W ⟨rfl, hb⟩; replace HS := Aside0.mk (HS.out.call hb); clear hb; (try clear f_b2 z_b2); obtain ⟨f_b2, z_b2⟩ := HS.out.cells 0 rfl)
    | (go_at_call 9; with_reducible refine (laws_toBatch.calls k a.f0 a.f1 a.f2 a.f3 a.f4 A c a.f5 x0.f0 x0.f1 x0.f2 x0.f3 x0.f4 x0.f5 _ (Kd.C_below HR.out HS.out.below) HC.out HF.out.c0).mono ?_; rintro e W ⟨v, rfl, hs, hb⟩; obtain ⟨V_rY, q_rY, rfl⟩ := Kd.S_slice hs; replace HS := Aside0.mk (HS.out.pushS hs hb); clear hs hb; (try clear f_b2 z_b2); obtain ⟨f_b2, z_b2⟩ := HS.out.cells 1 rfl)
    | (go_at_call 14; with_reducible refine (spec_BatchCut.calls k x0.f0 x0.f1 x0.f2 x0.f3 x0.f4 _ _ x0.f5 o g0.f0 g0.f1 g0.f2 g0.f3 g0.f4 g0.f5 g1.f0 g1.f1 g1.f2 g1.f3 g1.f4 g1.f5 ok _ (HS.out.getC 0 rfl) (HS.out.getL 0 rfl) HF.out.sj).mono ?_; rintro e W ⟨v, u, rfl, hs, hs2, hb⟩; obtain ⟨V_rW, q_rW, rfl⟩ := Kd.S_slice hs; obtain ⟨V_rZ, q_rZ, rfl⟩ := Kd.S_slice hs2; replace HS := Aside0.mk (HS.out.pushSS hs hs2 hb); clear hs hs2 hb; (try clear f_b2 z_b2); obtain ⟨f_b2, z_b2⟩ := HS.out.cells 2 rfl)
    | ((with_reducible refine gate_dst (N := 6) rfl ?_); refine w_box HS rfl rfl (by go_simp; try rfl) ?_; intro g_b6 W h_; clear HS; (try clear f_b2 z_b2); have HS := h_; clear h_; obtain ⟨f_b6, z_b6⟩ := HS.out.cells 0 rfl; obtain ⟨f_b2, z_b2⟩ := HS.out.cells 3 rfl)
    | ((with_reducible refine gate_dst (N := 7) rfl ?_); refine w_box HS rfl rfl (by go_simp; try rfl) ?_; intro g_b7 W h_; clear HS; (try clear f_b6 z_b6 f_b2 z_b2); have HS := h_; clear h_; obtain ⟨f_b7, z_b7⟩ := HS.out.cells 0 rfl; obtain ⟨f_b6, z_b6⟩ := HS.out.cells 1 rfl; obtain ⟨f_b2, z_b2⟩ := HS.out.cells 4 rfl)
    | ((with_reducible refine gate_store (t := 28) (p := 6) rfl ?_); refine w_put rfl rfl (by go_simp; try rfl) (HS.out.set6 1 rfl _ _ _ _ _ _) ?_; intro W h_; clear HS; (try clear f_b7 z_b7 f_b6 z_b6 f_b2 z_b2); have HS := h_; clear h_; (try simp only [List.set_cons_zero, List.set_cons_succ] at HS); obtain ⟨f_b7, z_b7⟩ := HS.out.cells 0 rfl; obtain ⟨f_b6, z_b6⟩ := HS.out.cells 1 rfl; obtain ⟨f_b2, z_b2⟩ := HS.out.cells 4 rfl)
    | ((with_reducible refine gate_store (t := 28) (p := 7) rfl ?_); refine w_put rfl rfl (by go_simp; try rfl) (HS.out.set6 0 rfl _ _ _ _ _ _) ?_; intro W h_; clear HS; (try clear f_b7 z_b7 f_b6 z_b6 f_b2 z_b2); have HS := h_; clear h_; (try simp only [List.set_cons_zero, List.set_cons_succ] at HS); obtain ⟨f_b7, z_b7⟩ := HS.out.cells 0 rfl; obtain ⟨f_b6, z_b6⟩ := HS.out.cells 1 rfl; obtain ⟨f_b2, z_b2⟩ := HS.out.cells 4 rfl))
  go_upto_region 10 with (first
    | (go_at_call 9; with_reducible refine (laws_toBatch.calls k a.f0 a.f1 a.f2 a.f3 a.f4 A c a.f5 x0.f0 x0.f1 x0.f2 x0.f3 x0.f4 x0.f5 _ (Kd.C_below HR.out HS.out.below) HC.out HF.out.c0).mono ?_; rintro e W ⟨v, rfl, hs, hb⟩; obtain ⟨V_rX, q_rX, rfl⟩ := Kd.S_slice hs; replace HS := Aside0.mk (HS.out.pushS hs hb); clear hs hb; (try clear f_b7 z_b7 f_b6 z_b6 f_b2 z_b2); obtain ⟨f_b7, z_b7⟩ := HS.out.cells 1 rfl; obtain ⟨f_b6, z_b6⟩ := HS.out.cells 2 rfl; obtain ⟨f_b2, z_b2⟩ := HS.out.cells 5 rfl)
    | ((with_reducible refine gate_dst (N := 9) rfl ?_); refine w_box HS rfl rfl (by go_simp; try rfl) ?_; intro g_b9 W h_; clear HS; (try clear f_b7 z_b7 f_b6 z_b6 f_b2 z_b2); have HS := h_; clear h_; obtain ⟨f_b9, z_b9⟩ := HS.out.cells 0 rfl; obtain ⟨f_b7, z_b7⟩ := HS.out.cells 2 rfl; obtain ⟨f_b6, z_b6⟩ := HS.out.cells 3 rfl; obtain ⟨f_b2, z_b2⟩ := HS.out.cells 6 rfl)
    | ((with_reducible refine gate_store (t := 28) (p := 9) rfl ?_); refine w_put rfl rfl (by go_simp; try rfl) (HS.out.set6 0 rfl _ _ _ _ _ _) ?_; intro W h_; clear HS; (try clear f_b9 z_b9 f_b7 z_b7 f_b6 z_b6 f_b2 z_b2); have HS := h_; clear h_; (try simp only [List.set_cons_zero, List.set_cons_succ] at HS); obtain ⟨f_b9, z_b9⟩ := HS.out.cells 0 rfl; obtain ⟨f_b7, z_b7⟩ := HS.out.cells 2 rfl; obtain ⟨f_b6, z_b6⟩ := HS.out.cells 3 rfl; obtain ⟨f_b2, z_b2⟩ := HS.out.cells 6 rfl)
    | (go_at_call 15; with_reducible refine (impl_BatchCut.callsS k x0.f0 x0.f1 x0.f2 x0.f3 x0.f4 _ _ x0.f5 o g0.f0 g0.f1 g0.f2 g0.f3 g0.f4 g0.f5 g1.f0 g1.f1 g1.f2 g1.f3 g1.f4 g1.f5 ok _ (ErrOk.below HE.out HS.out.below) (HS.out.getC 1 rfl) (HS.out.getL 1 rfl) HF.out.ij).mono ?_; rintro e W ⟨v, u, P_, rfl, hs, hs2, hb⟩; obtain ⟨V_rG, q_rG, rfl⟩ := Kd.S_slice hs; obtain ⟨V_rH, q_rH, rfl⟩ := Kd.S_slice hs2; replace HS := Aside0.mk (HS.out.push2 hs hs2 hb); clear hs hs2 hb; (try clear f_b9 z_b9 f_b7 z_b7 f_b6 z_b6 f_b2 z_b2); obtain ⟨f_b9, z_b9⟩ := HS.out.cells 2 rfl; obtain ⟨f_b7, z_b7⟩ := HS.out.cells 4 rfl; obtain ⟨f_b6, z_b6⟩ := HS.out.cells 5 rfl; obtain ⟨f_b2, z_b2⟩ := HS.out.cells 8 rfl)
    | ((with_reducible refine gate_dst (N := 10) rfl ?_); refine w_box HS rfl rfl (by go_simp; try rfl) ?_; intro g_b10 W h_; clear HS; (try clear f_b9 z_b9 f_b7 z_b7 f_b6 z_b6 f_b2 z_b2); have HS := h_; clear h_; obtain ⟨f_b10, z_b10⟩ := HS.out.cells 0 rfl; obtain ⟨f_b9, z_b9⟩ := HS.out.cells 3 rfl; obtain ⟨f_b7, z_b7⟩ := HS.out.cells 5 rfl; obtain ⟨f_b6, z_b6⟩ := HS.out.cells 6 rfl; obtain ⟨f_b2, z_b2⟩ := HS.out.cells 9 rfl)
    | ((with_reducible refine gate_dst (N := 11) rfl ?_); refine w_box HS rfl rfl (by go_simp; try rfl) ?_; intro g_b11 W h_; clear HS; (try clear f_b10 z_b10 f_b9 z_b9 f_b7 z_b7 f_b6 z_b6 f_b2 z_b2); have HS := h_; clear h_; obtain ⟨f_b11, z_b11⟩ := HS.out.cells 0 rfl; obtain ⟨f_b10, z_b10⟩ := HS.out.cells 1 rfl; obtain ⟨f_b9, z_b9⟩ := HS.out.cells 4 rfl; obtain ⟨f_b7, z_b7⟩ := HS.out.cells 6 rfl; obtain ⟨f_b6, z_b6⟩ := HS.out.cells 7 rfl; obtain ⟨f_b2, z_b2⟩ := HS.out.cells 10 rfl)
    | ((with_reducible refine gate_store (t := 28) (p := 10) rfl ?_); refine w_put rfl rfl (by go_simp; try rfl) (HS.out.set6 1 rfl _ _ _ _ _ _) ?_; intro W h_; clear HS; (try clear f_b11 z_b11 f_b10 z_b10 f_b9 z_b9 f_b7 z_b7 f_b6 z_b6 f_b2 z_b2); have HS := h_; clear h_; (try simp only [List.set_cons_zero, List.set_cons_succ] at HS); obtain ⟨f_b11, z_b11⟩ := HS.out.cells 0 rfl; obtain ⟨f_b10, z_b10⟩ := HS.out.cells 1 rfl; obtain ⟨f_b9, z_b9⟩ := HS.out.cells 4 rfl; obtain ⟨f_b7, z_b7⟩ := HS.out.cells 6 rfl; obtain ⟨f_b6, z_b6⟩ := HS.out.cells 7 rfl; obtain ⟨f_b2, z_b2⟩ := HS.out.cells 10 rfl)
    | ((with_reducible refine gate_store (t := 28) (p := 11) rfl ?_); refine w_put rfl rfl (by go_simp; try rfl) (HS.out.set6 0 rfl _ _ _ _ _ _) ?_; intro W h_; clear HS; (try clear f_b11 z_b11 f_b10 z_b10 f_b9 z_b9 f_b7 z_b7 f_b6 z_b6 f_b2 z_b2); have HS := h_; clear h_; (try simp only [List.set_cons_zero, List.set_cons_succ] at HS); obtain ⟨f_b11, z_b11⟩ := HS.out.cells 0 rfl; obtain ⟨f_b10, z_b10⟩ := HS.out.cells 1 rfl; obtain ⟨f_b9, z_b9⟩ := HS.out.cells 4 rfl; obtain ⟨f_b7, z_b7⟩ := HS.out.cells 6 rfl; obtain ⟨f_b6, z_b6⟩ := HS.out.cells 7 rfl; obtain ⟨f_b2, z_b2⟩ := HS.out.cells 10 rfl)
    | (go_at_call 11; with_reducible refine (laws_eqBatch.calls k g0.f0 g0.f1 g0.f2 g0.f3 g0.f4 _ _ g0.f5 g0.f0 g0.f1 g0.f2 g0.f3 g0.f4 _ _ g0.f5 true _ (HS.out.getC 2 rfl) (HS.out.getL 2 rfl) (HS.out.getC1 8 rfl).1 (HS.out.getC1 8 rfl).2 HF.out.e0).mono ?_; rintro e W ⟨rfl, hb⟩; replace HS := Aside0.mk (HS.out.call hb); clear hb; (try clear f_b11 z_b11 f_b10 z_b10 f_b9 z_b9 f_b7 z_b7 f_b6 z_b6 f_b2 z_b2); obtain ⟨f_b11, z_b11⟩ := HS.out.cells 0 rfl; obtain ⟨f_b10, z_b10⟩ := HS.out.cells 1 rfl; obtain ⟨f_b9, z_b9⟩ := HS.out.cells 4 rfl; obtain ⟨f_b7, z_b7⟩ := HS.out.cells 6 rfl; obtain ⟨f_b6, z_b6⟩ := HS.out.cells 7 rfl; obtain ⟨f_b2, z_b2⟩ := HS.out.cells 10 rfl)
    | (go_at_call 11; with_reducible refine (laws_eqBatch.calls k g1.f0 g1.f1 g1.f2 g1.f3 g1.f4 _ _ g1.f5 g1.f0 g1.f1 g1.f2 g1.f3 g1.f4 _ _ g1.f5 true _ (HS.out.getC 3 rfl) (HS.out.getL 3 rfl) (HS.out.getC2 8 rfl).1 (HS.out.getC2 8 rfl).2 HF.out.e1).mono ?_; rintro e W ⟨rfl, hb⟩; replace HS := Aside0.mk (HS.out.call hb); clear hb; (try clear f_b11 z_b11 f_b10 z_b10 f_b9 z_b9 f_b7 z_b7 f_b6 z_b6 f_b2 z_b2); obtain ⟨f_b11, z_b11⟩ := HS.out.cells 0 rfl; obtain ⟨f_b10, z_b10⟩ := HS.out.cells 1 rfl; obtain ⟨f_b9, z_b9⟩ := HS.out.cells 4 rfl; obtain ⟨f_b7, z_b7⟩ := HS.out.cells 6 rfl; obtain ⟨f_b6, z_b6⟩ := HS.out.cells 7 rfl; obtain ⟨f_b2, z_b2⟩ := HS.out.cells 10 rfl))
  refine q_begin (fun W => St w W _) [] 5 (by kernel_rfl) rfl HS.out.drew (fun hS => ?_)
  generalize World.drew _ = W at hS ⊢
  clear HS; (try clear f_b11 z_b11 f_b10 z_b10 f_b9 z_b9 f_b7 z_b7 f_b6 z_b6 f_b2 z_b2)
  have HS := Aside0.mk hS
  refine q_go (v := ?_) (by kernel_rfl) (by rfl) (fun _ _ _ h => h) hS ?_ ?_
  rotate_left
  focus (intro w hS; have f_b11 := (hS.cells 0 rfl).1; have f_b10 := (hS.cells 1 rfl).1; have f_b9 := (hS.cells 4 rfl).1; have f_b7 := (hS.cells 6 rfl).1; have f_b6 := (hS.cells 7 rfl).1; have f_b2 := (hS.cells 10 rfl).1; go_simp; first | done | with_reducible rfl)
  simp only [Act.put, List.setIfInBounds_toArray, List.set_cons_zero, List.set_cons_succ, Nat.reduceAdd]
  refine q_go (v := ?_) (by kernel_rfl) (by rfl) (fun _ _ _ h => h) hS ?_ ?_
  rotate_left
  focus (intro w hS; have f_b11 := (hS.cells 0 rfl).1; have f_b10 := (hS.cells 1 rfl).1; have f_b9 := (hS.cells 4 rfl).1; have f_b7 := (hS.cells 6 rfl).1; have f_b6 := (hS.cells 7 rfl).1; have f_b2 := (hS.cells 10 rfl).1; go_simp; first | done | with_reducible rfl)
  simp only [Act.put, List.setIfInBounds_toArray, List.set_cons_zero, List.set_cons_succ, Nat.reduceAdd]
  refine q_call (by kernel_rfl) (by decide) (by rfl) Tryd.func9 (by kernel_rfl) rfl #[BatV a.f0 a.f1 a.f2 a.f3 a.f4 (.slice A a.f5.length c)] rfl tq ?_
  refine (laws_toBatch.calls k a.f0 a.f1 a.f2 a.f3 a.f4 A c a.f5 x0.f0 x0.f1 x0.f2 x0.f3 x0.f4 x0.f5 _ (Kd.C_below HR.out HS.out.below) HC.out HF.out.c0).mono ?_
  rintro e W ⟨v, rfl, hs, hb⟩; obtain ⟨V_rU, q_rU, rfl⟩ := Kd.S_slice hs; refine ⟨_, rfl, hS.call hb, fun hS => ?_⟩; replace HS := Aside0.mk (HS.out.pushS hs hb); clear hs hb
  simp only [Act.put, List.setIfInBounds_toArray, List.set_cons_zero, List.set_cons_succ, Nat.reduceAdd]
  refine q_call (by kernel_rfl) (by decide) (by rfl) Tryd.func11 (by kernel_rfl) rfl #[BatV x0.f0 x0.f1 x0.f2 x0.f3 x0.f4 (.slice V_rX x0.f5.length q_rX), BatV x0.f0 x0.f1 x0.f2 x0.f3 x0.f4 (.slice V_rU x0.f5.length q_rU)] rfl tq ?_
  refine (laws_eqBatch.calls k x0.f0 x0.f1 x0.f2 x0.f3 x0.f4 _ _ x0.f5 x0.f0 x0.f1 x0.f2 x0.f3 x0.f4 _ _ x0.f5 true _ (HS.out.getC 6 rfl) (HS.out.getL 6 rfl) (HS.out.getC 0 rfl) (HS.out.getL 0 rfl) HF.out.ex).mono ?_
  rintro e W ⟨rfl, hb⟩; refine ⟨_, rfl, hS.call hb, fun hS => ?_⟩; replace HS := Aside0.mk (HS.out.call hb); clear hb
  simp only [Act.put, List.setIfInBounds_toArray, List.set_cons_zero, List.set_cons_succ, Nat.reduceAdd]
  refine q_go (v := ?_) (by kernel_rfl) (by rfl) (fun _ _ _ h => h) hS ?_ ?_
  rotate_left
  focus (intro w hS; have f_b11 := (hS.cells 0 rfl).1; have f_b10 := (hS.cells 1 rfl).1; have f_b9 := (hS.cells 4 rfl).1; have f_b7 := (hS.cells 6 rfl).1; have f_b6 := (hS.cells 7 rfl).1; have f_b2 := (hS.cells 10 rfl).1; go_simp; first | done | with_reducible rfl)
  simp only [Act.put, List.setIfInBounds_toArray, List.set_cons_zero, List.set_cons_succ, Nat.reduceAdd]
  refine q_done (by kernel_rfl) ?_
  clear hS
  obtain ⟨f_b11, z_b11⟩ := HS.out.cells 1 rfl
  obtain ⟨f_b10, z_b10⟩ := HS.out.cells 2 rfl
  obtain ⟨f_b9, z_b9⟩ := HS.out.cells 5 rfl
  obtain ⟨f_b7, z_b7⟩ := HS.out.cells 7 rfl
  obtain ⟨f_b6, z_b6⟩ := HS.out.cells 8 rfl
  obtain ⟨f_b2, z_b2⟩ := HS.out.cells 11 rfl
  go_upto_region 28 with (first
    | (go_at_call 12; with_reducible refine (laws_markBatch.callsA _ x0.f0 x0.f1 x0.f2 x0.f3 x0.f4 _ x0.f5 (1) w _ HS.out.below (HS.out.getS 6 rfl) (by have := HF.out.b0; have := HF.out.b1; have := HF.out.bx; omega) (by have := HF.out.b0; have := HF.out.b1; have := HF.out.bx; omega)).mono ?_; rintro e W ⟨rfl, hs, hb, hk⟩; replace HS := Aside0.mk (HS.out.markS 6 rfl hs hb hk); clear hs hb hk; (try simp only [List.set_cons_zero, List.set_cons_succ] at HS); (try clear f_b11 z_b11 f_b10 z_b10 f_b9 z_b9 f_b7 z_b7 f_b6 z_b6 f_b2 z_b2); obtain ⟨f_b11, z_b11⟩ := HS.out.cells 1 rfl; obtain ⟨f_b10, z_b10⟩ := HS.out.cells 2 rfl; obtain ⟨f_b9, z_b9⟩ := HS.out.cells 5 rfl; obtain ⟨f_b7, z_b7⟩ := HS.out.cells 7 rfl; obtain ⟨f_b6, z_b6⟩ := HS.out.cells 8 rfl; obtain ⟨f_b2, z_b2⟩ := HS.out.cells 11 rfl)
    | (go_at_call 11; with_reducible refine (laws_eqBatch.calls k g0.f0 g0.f1 g0.f2 g0.f3 g0.f4 _ _ g0.f5 g0.f0 g0.f1 g0.f2 g0.f3 g0.f4 _ _ g0.f5 true _ (HS.out.getC 3 rfl) (HS.out.getL 3 rfl) (HS.out.getC1 9 rfl).1 (HS.out.getC1 9 rfl).2 HF.out.e0).mono ?_; rintro e W ⟨rfl, hb⟩; replace HS := Aside0.mk (HS.out.call hb); clear hb; (try clear f_b11 z_b11 f_b10 z_b10 f_b9 z_b9 f_b7 z_b7 f_b6 z_b6 f_b2 z_b2); obtain ⟨f_b11, z_b11⟩ := HS.out.cells 1 rfl; obtain ⟨f_b10, z_b10⟩ := HS.out.cells 2 rfl; obtain ⟨f_b9, z_b9⟩ := HS.out.cells 5 rfl; obtain ⟨f_b7, z_b7⟩ := HS.out.cells 7 rfl; obtain ⟨f_b6, z_b6⟩ := HS.out.cells 8 rfl; obtain ⟨f_b2, z_b2⟩ := HS.out.cells 11 rfl)
    | (go_at_call 11; with_reducible refine (laws_eqBatch.calls k g1.f0 g1.f1 g1.f2 g1.f3 g1.f4 _ _ g1.f5 g1.f0 g1.f1 g1.f2 g1.f3 g1.f4 _ _ g1.f5 true _ (HS.out.getC 4 rfl) (HS.out.getL 4 rfl) (HS.out.getC2 9 rfl).1 (HS.out.getC2 9 rfl).2 HF.out.e1).mono ?_; rintro e W ⟨rfl, hb⟩; replace HS := Aside0.mk (HS.out.call hb); clear hb; (try clear f_b11 z_b11 f_b10 z_b10 f_b9 z_b9 f_b7 z_b7 f_b6 z_b6 f_b2 z_b2); obtain ⟨f_b11, z_b11⟩ := HS.out.cells 1 rfl; obtain ⟨f_b10, z_b10⟩ := HS.out.cells 2 rfl; obtain ⟨f_b9, z_b9⟩ := HS.out.cells 5 rfl; obtain ⟨f_b7, z_b7⟩ := HS.out.cells 7 rfl; obtain ⟨f_b6, z_b6⟩ := HS.out.cells 8 rfl; obtain ⟨f_b2, z_b2⟩ := HS.out.cells 11 rfl)
    | (go_at_call 12; with_reducible refine (laws_markBatch.callsA _ g0.f0 g0.f1 g0.f2 g0.f3 g0.f4 _ g0.f5 (1) w _ HS.out.below (HS.out.getS 3 rfl) (by have := HF.out.b0; have := HF.out.b1; have := HF.out.bx; omega) (by have := HF.out.b0; have := HF.out.b1; have := HF.out.bx; omega)).mono ?_; rintro e W ⟨rfl, hs, hb, hk⟩; replace HS := Aside0.mk (HS.out.markS 3 rfl hs hb hk); clear hs hb hk; (try simp only [List.set_cons_zero, List.set_cons_succ] at HS); (try clear f_b11 z_b11 f_b10 z_b10 f_b9 z_b9 f_b7 z_b7 f_b6 z_b6 f_b2 z_b2); obtain ⟨f_b11, z_b11⟩ := HS.out.cells 1 rfl; obtain ⟨f_b10, z_b10⟩ := HS.out.cells 2 rfl; obtain ⟨f_b9, z_b9⟩ := HS.out.cells 5 rfl; obtain ⟨f_b7, z_b7⟩ := HS.out.cells 7 rfl; obtain ⟨f_b6, z_b6⟩ := HS.out.cells 8 rfl; obtain ⟨f_b2, z_b2⟩ := HS.out.cells 11 rfl)
    | (go_at_call 12; with_reducible refine (laws_markBatch.callsA _ g1.f0 g1.f1 g1.f2 g1.f3 g1.f4 _ g1.f5 (1 + (totR g0.f5 : Int)) w _ HS.out.below (HS.out.getS 4 rfl) (by have := HF.out.b0; have := HF.out.b1; have := HF.out.bx; omega) (by have := HF.out.b0; have := HF.out.b1; have := HF.out.bx; omega)).mono ?_; rintro e W ⟨rfl, hs, hb, hk⟩; replace HS := Aside0.mk (HS.out.markS 4 rfl hs hb hk); clear hs hb hk; (try simp only [List.set_cons_zero, List.set_cons_succ] at HS); (try clear f_b11 z_b11 f_b10 z_b10 f_b9 z_b9 f_b7 z_b7 f_b6 z_b6 f_b2 z_b2); obtain ⟨f_b11, z_b11⟩ := HS.out.cells 1 rfl; obtain ⟨f_b10, z_b10⟩ := HS.out.cells 2 rfl; obtain ⟨f_b9, z_b9⟩ := HS.out.cells 5 rfl; obtain ⟨f_b7, z_b7⟩ := HS.out.cells 7 rfl; obtain ⟨f_b6, z_b6⟩ := HS.out.cells 8 rfl; obtain ⟨f_b2, z_b2⟩ := HS.out.cells 11 rfl)
    | (go_at_call 13; with_reducible refine (laws_heldBatch.callsA k g0.f0 g0.f1 g0.f2 g0.f3 g0.f4 _ g0.f5 1 _ _ _ (HS.out.getS 3 rfl) HF.out.h0).mono ?_; rintro e W ⟨rfl, hb⟩; replace HS := Aside0.mk (HS.out.call hb); clear hb; (try clear f_b11 z_b11 f_b10 z_b10 f_b9 z_b9 f_b7 z_b7 f_b6 z_b6 f_b2 z_b2); obtain ⟨f_b11, z_b11⟩ := HS.out.cells 1 rfl; obtain ⟨f_b10, z_b10⟩ := HS.out.cells 2 rfl; obtain ⟨f_b9, z_b9⟩ := HS.out.cells 5 rfl; obtain ⟨f_b7, z_b7⟩ := HS.out.cells 7 rfl; obtain ⟨f_b6, z_b6⟩ := HS.out.cells 8 rfl; obtain ⟨f_b2, z_b2⟩ := HS.out.cells 11 rfl)
    | (go_at_call 13; with_reducible refine (laws_heldBatch.callsA k g1.f0 g1.f1 g1.f2 g1.f3 g1.f4 _ g1.f5 (1 + (totR g0.f5 : Int)) _ _ _ (HS.out.getS 4 rfl) HF.out.h1).mono ?_; rintro e W ⟨rfl, hb⟩; replace HS := Aside0.mk (HS.out.call hb); clear hb; (try clear f_b11 z_b11 f_b10 z_b10 f_b9 z_b9 f_b7 z_b7 f_b6 z_b6 f_b2 z_b2); obtain ⟨f_b11, z_b11⟩ := HS.out.cells 1 rfl; obtain ⟨f_b10, z_b10⟩ := HS.out.cells 2 rfl; obtain ⟨f_b9, z_b9⟩ := HS.out.cells 5 rfl; obtain ⟨f_b7, z_b7⟩ := HS.out.cells 7 rfl; obtain ⟨f_b6, z_b6⟩ := HS.out.cells 8 rfl; obtain ⟨f_b2, z_b2⟩ := HS.out.cells 11 rfl))
  go_wp2_with (first
    | (go_at_call 9; with_reducible refine (laws_toBatch.calls k a.f0 a.f1 a.f2 a.f3 a.f4 A c a.f5 x0.f0 x0.f1 x0.f2 x0.f3 x0.f4 x0.f5 _ (Kd.C_below HR.out HS.out.below) HC.out HF.out.c0).mono ?_; rintro e W ⟨v, rfl, hs, hb⟩; obtain ⟨V_rT, q_rT, rfl⟩ := Kd.S_slice hs; replace HS := Aside0.mk (HS.out.pushS hs hb); clear hs hb; (try clear f_b11 z_b11 f_b10 z_b10 f_b9 z_b9 f_b7 z_b7 f_b6 z_b6 f_b2 z_b2); obtain ⟨f_b11, z_b11⟩ := HS.out.cells 2 rfl; obtain ⟨f_b10, z_b10⟩ := HS.out.cells 3 rfl; obtain ⟨f_b9, z_b9⟩ := HS.out.cells 6 rfl; obtain ⟨f_b7, z_b7⟩ := HS.out.cells 8 rfl; obtain ⟨f_b6, z_b6⟩ := HS.out.cells 9 rfl; obtain ⟨f_b2, z_b2⟩ := HS.out.cells 12 rfl)
    | (go_at_call 15; with_reducible refine (impl_BatchCut.callsS k x0.f0 x0.f1 x0.f2 x0.f3 x0.f4 _ _ x0.f5 o g0.f0 g0.f1 g0.f2 g0.f3 g0.f4 g0.f5 g1.f0 g1.f1 g1.f2 g1.f3 g1.f4 g1.f5 ok _ (ErrOk.below HE.out HS.out.below) (HS.out.getC 0 rfl) (HS.out.getL 0 rfl) HF.out.ij).mono ?_; rintro e W ⟨v, u, P_, rfl, hs, hs2, hb⟩; obtain ⟨V_rI, q_rI, rfl⟩ := Kd.S_slice hs; obtain ⟨V_rJ, q_rJ, rfl⟩ := Kd.S_slice hs2; replace HS := Aside0.mk (HS.out.push2 hs hs2 hb); clear hs hs2 hb; (try clear f_b11 z_b11 f_b10 z_b10 f_b9 z_b9 f_b7 z_b7 f_b6 z_b6 f_b2 z_b2); obtain ⟨f_b11, z_b11⟩ := HS.out.cells 4 rfl; obtain ⟨f_b10, z_b10⟩ := HS.out.cells 5 rfl; obtain ⟨f_b9, z_b9⟩ := HS.out.cells 8 rfl; obtain ⟨f_b7, z_b7⟩ := HS.out.cells 10 rfl; obtain ⟨f_b6, z_b6⟩ := HS.out.cells 11 rfl; obtain ⟨f_b2, z_b2⟩ := HS.out.cells 14 rfl)
    | ((with_reducible refine gate_dst (N := 16) rfl ?_); refine w_box HS rfl rfl (by go_simp; try rfl) ?_; intro g_b16 W h_; clear HS; (try clear f_b11 z_b11 f_b10 z_b10 f_b9 z_b9 f_b7 z_b7 f_b6 z_b6 f_b2 z_b2); have HS := h_; clear h_; obtain ⟨f_b16, z_b16⟩ := HS.out.cells 0 rfl; obtain ⟨f_b11, z_b11⟩ := HS.out.cells 5 rfl; obtain ⟨f_b10, z_b10⟩ := HS.out.cells 6 rfl; obtain ⟨f_b9, z_b9⟩ := HS.out.cells 9 rfl; obtain ⟨f_b7, z_b7⟩ := HS.out.cells 11 rfl; obtain ⟨f_b6, z_b6⟩ := HS.out.cells 12 rfl; obtain ⟨f_b2, z_b2⟩ := HS.out.cells 15 rfl)
    | ((with_reducible refine gate_dst (N := 17) rfl ?_); refine w_box HS rfl rfl (by go_simp; try rfl) ?_; intro g_b17 W h_; clear HS; (try clear f_b16 z_b16 f_b11 z_b11 f_b10 z_b10 f_b9 z_b9 f_b7 z_b7 f_b6 z_b6 f_b2 z_b2); have HS := h_; clear h_; obtain ⟨f_b17, z_b17⟩ := HS.out.cells 0 rfl; obtain ⟨f_b16, z_b16⟩ := HS.out.cells 1 rfl; obtain ⟨f_b11, z_b11⟩ := HS.out.cells 6 rfl; obtain ⟨f_b10, z_b10⟩ := HS.out.cells 7 rfl; obtain ⟨f_b9, z_b9⟩ := HS.out.cells 10 rfl; obtain ⟨f_b7, z_b7⟩ := HS.out.cells 12 rfl; obtain ⟨f_b6, z_b6⟩ := HS.out.cells 13 rfl; obtain ⟨f_b2, z_b2⟩ := HS.out.cells 16 rfl)
    | ((with_reducible refine gate_store (t := 28) (p := 16) rfl ?_); refine w_put rfl rfl (by go_simp; try rfl) (HS.out.set6 1 rfl _ _ _ _ _ _) ?_; intro W h_; clear HS; (try clear f_b17 z_b17 f_b16 z_b16 f_b11 z_b11 f_b10 z_b10 f_b9 z_b9 f_b7 z_b7 f_b6 z_b6 f_b2 z_b2); have HS := h_; clear h_; (try simp only [List.set_cons_zero, List.set_cons_succ] at HS); obtain ⟨f_b17, z_b17⟩ := HS.out.cells 0 rfl; obtain ⟨f_b16, z_b16⟩ := HS.out.cells 1 rfl; obtain ⟨f_b11, z_b11⟩ := HS.out.cells 6 rfl; obtain ⟨f_b10, z_b10⟩ := HS.out.cells 7 rfl; obtain ⟨f_b9, z_b9⟩ := HS.out.cells 10 rfl; obtain ⟨f_b7, z_b7⟩ := HS.out.cells 12 rfl; obtain ⟨f_b6, z_b6⟩ := HS.out.cells 13 rfl; obtain ⟨f_b2, z_b2⟩ := HS.out.cells 16 rfl)
    | ((with_reducible refine gate_store (t := 28) (p := 17) rfl ?_); refine w_put rfl rfl (by go_simp; try rfl) (HS.out.set6 0 rfl _ _ _ _ _ _) ?_; intro W h_; clear HS; (try clear f_b17 z_b17 f_b16 z_b16 f_b11 z_b11 f_b10 z_b10 f_b9 z_b9 f_b7 z_b7 f_b6 z_b6 f_b2 z_b2); have HS := h_; clear h_; (try simp only [List.set_cons_zero, List.set_cons_succ] at HS); obtain ⟨f_b17, z_b17⟩ := HS.out.cells 0 rfl; obtain ⟨f_b16, z_b16⟩ := HS.out.cells 1 rfl; obtain ⟨f_b11, z_b11⟩ := HS.out.cells 6 rfl; obtain ⟨f_b10, z_b10⟩ := HS.out.cells 7 rfl; obtain ⟨f_b9, z_b9⟩ := HS.out.cells 10 rfl; obtain ⟨f_b7, z_b7⟩ := HS.out.cells 12 rfl; obtain ⟨f_b6, z_b6⟩ := HS.out.cells 13 rfl; obtain ⟨f_b2, z_b2⟩ := HS.out.cells 16 rfl)
    | (go_at_call 11; with_reducible refine (laws_eqBatch.calls k g0.f0 g0.f1 g0.f2 g0.f3 g0.f4 _ _ g0.f5 g0.f0 g0.f1 g0.f2 g0.f3 g0.f4 _ _ g0.f5 true _ (HS.out.getC 2 rfl) (HS.out.getL 2 rfl) (HS.out.getC1 14 rfl).1 (HS.out.getC1 14 rfl).2 HF.out.e0).mono ?_; rintro e W ⟨rfl, hb⟩; replace HS := Aside0.mk (HS.out.call hb); clear hb; (try clear f_b17 z_b17 f_b16 z_b16 f_b11 z_b11 f_b10 z_b10 f_b9 z_b9 f_b7 z_b7 f_b6 z_b6 f_b2 z_b2); obtain ⟨f_b17, z_b17⟩ := HS.out.cells 0 rfl; obtain ⟨f_b16, z_b16⟩ := HS.out.cells 1 rfl; obtain ⟨f_b11, z_b11⟩ := HS.out.cells 6 rfl; obtain ⟨f_b10, z_b10⟩ := HS.out.cells 7 rfl; obtain ⟨f_b9, z_b9⟩ := HS.out.cells 10 rfl; obtain ⟨f_b7, z_b7⟩ := HS.out.cells 12 rfl; obtain ⟨f_b6, z_b6⟩ := HS.out.cells 13 rfl; obtain ⟨f_b2, z_b2⟩ := HS.out.cells 16 rfl)
    | (go_at_call 11; with_reducible refine (laws_eqBatch.calls k g1.f0 g1.f1 g1.f2 g1.f3 g1.f4 _ _ g1.f5 g1.f0 g1.f1 g1.f2 g1.f3 g1.f4 _ _ g1.f5 true _ (HS.out.getC 3 rfl) (HS.out.getL 3 rfl) (HS.out.getC2 14 rfl).1 (HS.out.getC2 14 rfl).2 HF.out.e1).mono ?_; rintro e W ⟨rfl, hb⟩; replace HS := Aside0.mk (HS.out.call hb); clear hb; (try clear f_b17 z_b17 f_b16 z_b16 f_b11 z_b11 f_b10 z_b10 f_b9 z_b9 f_b7 z_b7 f_b6 z_b6 f_b2 z_b2); obtain ⟨f_b17, z_b17⟩ := HS.out.cells 0 rfl; obtain ⟨f_b16, z_b16⟩ := HS.out.cells 1 rfl; obtain ⟨f_b11, z_b11⟩ := HS.out.cells 6 rfl; obtain ⟨f_b10, z_b10⟩ := HS.out.cells 7 rfl; obtain ⟨f_b9, z_b9⟩ := HS.out.cells 10 rfl; obtain ⟨f_b7, z_b7⟩ := HS.out.cells 12 rfl; obtain ⟨f_b6, z_b6⟩ := HS.out.cells 13 rfl; obtain ⟨f_b2, z_b2⟩ := HS.out.cells 16 rfl)
    | (go_at_call 13; with_reducible refine (laws_heldBatch.callsA k g0.f0 g0.f1 g0.f2 g0.f3 g0.f4 _ g0.f5 1 _ _ _ (HS.out.getS 8 rfl) HF.out.h0).mono ?_; rintro e W ⟨rfl, hb⟩; replace HS := Aside0.mk (HS.out.call hb); clear hb; (try clear f_b17 z_b17 f_b16 z_b16 f_b11 z_b11 f_b10 z_b10 f_b9 z_b9 f_b7 z_b7 f_b6 z_b6 f_b2 z_b2); obtain ⟨f_b17, z_b17⟩ := HS.out.cells 0 rfl; obtain ⟨f_b16, z_b16⟩ := HS.out.cells 1 rfl; obtain ⟨f_b11, z_b11⟩ := HS.out.cells 6 rfl; obtain ⟨f_b10, z_b10⟩ := HS.out.cells 7 rfl; obtain ⟨f_b9, z_b9⟩ := HS.out.cells 10 rfl; obtain ⟨f_b7, z_b7⟩ := HS.out.cells 12 rfl; obtain ⟨f_b6, z_b6⟩ := HS.out.cells 13 rfl; obtain ⟨f_b2, z_b2⟩ := HS.out.cells 16 rfl)
    | (go_at_call 13; with_reducible refine (laws_heldBatch.callsA k g1.f0 g1.f1 g1.f2 g1.f3 g1.f4 _ g1.f5 (1 + (totR g0.f5 : Int)) _ _ _ (HS.out.getS 9 rfl) HF.out.h1).mono ?_; rintro e W ⟨rfl, hb⟩; replace HS := Aside0.mk (HS.out.call hb); clear hb; (try clear f_b17 z_b17 f_b16 z_b16 f_b11 z_b11 f_b10 z_b10 f_b9 z_b9 f_b7 z_b7 f_b6 z_b6 f_b2 z_b2); obtain ⟨f_b17, z_b17⟩ := HS.out.cells 0 rfl; obtain ⟨f_b16, z_b16⟩ := HS.out.cells 1 rfl; obtain ⟨f_b11, z_b11⟩ := HS.out.cells 6 rfl; obtain ⟨f_b10, z_b10⟩ := HS.out.cells 7 rfl; obtain ⟨f_b9, z_b9⟩ := HS.out.cells 10 rfl; obtain ⟨f_b7, z_b7⟩ := HS.out.cells 12 rfl; obtain ⟨f_b6, z_b6⟩ := HS.out.cells 13 rfl; obtain ⟨f_b2, z_b2⟩ := HS.out.cells 16 rfl))
  go_ret
  exact ⟨rfl, HS.out.below⟩
open Classical in
noncomputable def laws_FnExactBatchCut.f (k : Nat) (a0 a1 : Bool) (a2 a3 a4 : Int) (l : List S71) (o : Int) : Option Bool :=
  if (∃ t, laws_szBatch.f k a0 a1 a2 a3 a4 l 1048576 = some t ∧ t < 0) ∨ ∃ (t : Int) (x0 g0 g1 : S28) (ok : Bool), FactsBC k ⟨a0, a1, a2, a3, a4, l⟩ o t x0 g0 g1 ok then some true else none
set_option maxRecDepth 1000000 in
set_option maxHeartbeats 4000000 in
theorem laws_FnExactBatchCut.calls [ErrA] (k : Nat) (a0 a1 : Bool) (a2 a3 a4 : Int) (A : Option Addr) (c : Nat) (l : List S71) (o : Int) (r : Bool) (w : World) (hE : ErrOk [1] w) (hr0 : Kd.C k71 w A l.length l) (hc0 : l.length ≤ c) (h : laws_FnExactBatchCut.f k a0 a1 a2 a3 a4 l o = some r) :
    Calls Tryd.prog 4 #[BatV a0 a1 a2 a3 a4 (.slice A l.length c), .int .i64 o] w fun e w' => e = .returned (.bool r) ∧ Below w.heap.size w w' := by
  unfold laws_FnExactBatchCut.f at h
  split at h
  case isFalse => cases h
  case isTrue hx =>
    cases h
    have HS := Aside0.mk (St.nil w)
    rcases hx with ⟨t, s0, t0⟩ | ⟨t, x0, g0, g1, ok, h⟩
    · have HR0 := Aside0.mk hr0
      have HF := Aside0.mk s0
      clear hr0 s0 hE
      go_enter Tryd.func4, Tryd.ntmps4
      go_wp2_with (first
        | ((with_reducible refine gate_dst (N := 2) rfl ?_); refine w_box HS rfl rfl (by go_simp; try rfl) ?_; intro g2 W h_; clear HS; have HS := h_; clear h_; obtain ⟨f0, f1⟩ := HS.out.cells 0 rfl)
        | (go_at_call 7; with_reducible refine (laws_szBatch.calls k a0 a1 a2 a3 a4 A c l 1048576 t _ (Kd.C_below HR0.out HS.out.below) hc0 HF.out).mono ?_; rintro e W ⟨rfl, hb⟩; replace HS := Aside0.mk (HS.out.call hb); clear hb f0 f1; obtain ⟨f0, f1⟩ := HS.out.cells 0 rfl))
      go_ret
      exact ⟨rfl, HS.out.below⟩
    · exact exBC k ⟨a0, a1, a2, a3, a4, l⟩ A c o t x0 g0 g1 ok w hE hr0 hc0 h
end Go.Proofs.YtfjkpdhldeopaaaDoor.G

namespace Go.Proofs.YtfjkpdhldeopaaaDoor.Rd
open Go.RowKit Go.Proofs.YtfjkpdhldeopaaaDoorW.PrintWords
set_option linter.unusedVariables false
section
variable {H : Type} {enc : TypeId × Value → H} {P : Program} {w : World} {base : Nat} {spare : Nat → Bool} {held : Bool}
/-- What a reading of type t gives: a value of the kind, and what is known of it. -/
def Opens (enc : TypeId × Value → H) (P : Program) (w : World) (base : Nat) (spare : Nat → Bool) (held : Bool) {α : Type} (t : TypeId) (d : Kd α) (ok : α → Prop) : Prop :=
  P.cellsOf t = d.sz ∧ ∀ fuel cs x, DataW.trod enc P w base spare held fuel t cs = some x → ∃ v, d.K w v cs ∧ ok v
theorem Opens.imp_ {α : Type} {t : TypeId} {d : Kd α} {ok ok' : α → Prop} (h : Opens enc P w base spare held t d ok) (hi : ∀ v, ok v → ok' v) : Opens enc P w base spare held t d ok' :=
  ⟨h.1, fun fuel cs x hx => by
    obtain ⟨v, hk, ho⟩ := h.2 fuel cs x hx
    exact ⟨v, hk, hi v ho⟩⟩
theorem opens_int {t : TypeId} {k : IntKind} (ht : P.underlying t = some (.int k)) (hc : P.cellsOf t = 1) : Opens enc P w base spare held t (Kd.int k) (fun n => (Lit.int k n).wf = true) := by
  refine ⟨hc, fun fuel cs x h => ?_⟩
  obtain ⟨n, rfl, _, hw⟩ := DataW.trod_int ht h
  exact ⟨n, rfl, hw⟩
theorem opens_bool {t : TypeId} (ht : P.underlying t = some .bool) (hc : P.cellsOf t = 1) : Opens enc P w base spare held t Kd.bool (fun _ => True) := by
  refine ⟨hc, fun fuel cs x h => ?_⟩
  obtain ⟨n, rfl, _⟩ := DataW.trod_bool ht h
  exact ⟨n, rfl, trivial⟩
theorem cells_len {base : Nat} {a : Addr} {n : Nat} {cs : List Value} (h : w.cells? base a n = some cs) : cs.length = n ∧ ∀ i u, cs[i]? = some u → w.cell? (a.add i) = some u := by
  unfold World.cells? at h
  split at h
  · rename_i hb
    refine ⟨by simpa using mapM_some_length h, fun i u hu => ?_⟩
    have hi : i < n := by
      have := (List.getElem?_eq_some_iff.1 hu).1
      have h2 : cs.length = n := by simpa using mapM_some_length h
      omega
    have := mapM_some_get h i i (by simp [hi])
    rw [hu] at this
    exact this
  · simp at h
theorem opens_row {α : Type} {t e : TypeId} {d : Kd α} {ok : α → Prop} (ht : P.underlying t = some (.slice e)) (hd : Opens enc P w base spare held e d ok) {fuel : Nat} {cs : List Value} {x : DataW H × List MemPlace}
    (h : DataW.trod enc P w base spare held fuel t cs = some x) : ∃ (A : Option Addr) (c : Nat) (xs : List α), cs = [.slice A xs.length c] ∧ xs.length ≤ c ∧ c ≤ maxLen ∧ d.C w A xs.length xs ∧ ∀ y ∈ xs, ok y := by
  rcases Go.Deep.open_slice ht h with ⟨rfl, _⟩ | ⟨a, len, cap, m, n, D, Pl, rfl, hb, hl, hm, hmm, _, hel⟩
  · exact ⟨none, 0, [], rfl, Nat.le_refl _, by unfold maxLen; omega, ⟨rfl, by simp, fun h0 => absurd h0 (by simp)⟩, by simp⟩
  have hlm : len ≤ m := by rw [hmm]; split <;> omega
  have hx : ∀ i, i < len → ∃ y : α, ok y ∧ ∃ c, c.length = d.sz ∧ d.K w y c ∧ ∀ j u, c[j]? = some u → w.cell? (a.add (i * d.sz + j)) = some u := by
    intro i hi
    obtain ⟨cs', h1, h2⟩ := hel i (by omega)
    obtain ⟨y, hk, ho⟩ := hd.2 _ _ _ h2
    obtain ⟨hl', hc'⟩ := cells_len h1
    refine ⟨y, ho, cs', by rw [hl', hd.1], hk, fun j u hu => ?_⟩
    have := hc' j u hu
    rw [Go.Deep.add_add, hd.1] at this
    exact this
  rcases Nat.eq_zero_or_pos len with h0 | h0
  · subst h0
    exact ⟨some a, cap, [], rfl, Nat.zero_le _, hm, ⟨rfl, by simp, fun h1 => absurd h1 (by simp)⟩, by simp⟩
  obtain ⟨y0, _⟩ := hx 0 h0
  haveI : Inhabited α := ⟨y0⟩
  obtain ⟨g, hg⟩ := Go.Deep.choose_lt hx
  have hlen : ((List.range len).map g).length = len := by simp
  refine ⟨some a, cap, (List.range len).map g, by rw [hlen], by rw [hlen]; exact hl, hm, ⟨rfl, by rw [hlen]; unfold maxLen at hm; omega, fun _ => ⟨a, rfl, fun j p hj => ?_⟩⟩, fun y hy => ?_⟩
  · have hj' : j < len := by
      have := (List.getElem?_eq_some_iff.1 hj).1
      omega
    rw [List.getElem?_map, List.getElem?_range hj'] at hj
    simp at hj
    subst hj
    obtain ⟨_, c, hc1, hc2, hc3⟩ := hg j hj'
    exact ⟨c, hc1, hc2, hc3⟩
  · obtain ⟨i, hi, rfl⟩ := List.mem_map.1 hy
    exact (hg i (List.mem_range.1 hi)).1
theorem opens_slice {α : Type} {t e : TypeId} {d : Kd α} {ok : α → Prop} (ht : P.underlying t = some (.slice e)) (hc : P.cellsOf t = 1) (hd : Opens enc P w base spare held e d ok) :
    Opens enc P w base spare held t (Kd.slice e d) (fun xs => xs.length ≤ maxLen ∧ ∀ y ∈ xs, ok y) := by
  refine ⟨hc, fun fuel cs x h => ?_⟩
  obtain ⟨A, c, xs, rfl, hl, hm, hC, ho⟩ := opens_row ht hd h
  exact ⟨xs, ⟨A, c, rfl, hl, hC⟩, Nat.le_trans hl hm, ho⟩
/-- A struct's fields, one behind the other, from a place of its cells on. -/
def OpensAt (enc : TypeId × Value → H) (P : Program) (w : World) (base : Nat) (spare : Nat → Bool) (held : Bool) {α : Type} (fs : List Field) (off : Nat) (d : Kd α) (ok : α → Prop) : Prop :=
  ∀ n (cs : List Value), cs.length = off + d.sz → (∀ f ∈ fs, ∃ x, DataW.trod enc P w base spare held n f.type ((cs.drop f.offset).take (P.cellsOf f.type)) = some x) → ∃ v, d.K w v (cs.drop off) ∧ ok v
theorem opens_last {α : Type} {f : Field} {off : Nat} {d : Kd α} {ok : α → Prop} (ho : f.offset = off) (hd : Opens enc P w base spare held f.type d ok) : OpensAt enc P w base spare held [f] off d ok := by
  intro n cs hl h
  obtain ⟨x, hx⟩ := h f (by simp)
  obtain ⟨v, hk, hok⟩ := hd.2 _ _ _ hx
  rw [ho, hd.1, List.take_of_length_le (by rw [List.length_drop]; omega)] at hk
  exact ⟨v, hk, hok⟩
theorem opens_more {α β : Type} {f : Field} {fs : List Field} {off : Nat} {d : Kd α} {d' : Kd β} {ok : α → Prop} {ok' : β → Prop} (ho : f.offset = off) (hd : Opens enc P w base spare held f.type d ok) (hr : OpensAt enc P w base spare held fs (off + d.sz) d' ok') :
    OpensAt enc P w base spare held (f :: fs) off (Kd.pair d d') (fun v => ok v.1 ∧ ok' v.2) := by
  intro n cs hl h
  have hl' : cs.length = off + (d.sz + d'.sz) := hl
  obtain ⟨x, hx⟩ := h f (by simp)
  obtain ⟨v, hk, hok⟩ := hd.2 _ _ _ hx
  obtain ⟨v', hk', hok'⟩ := hr n cs (by omega) (fun g hg => h g (by simp [hg]))
  rw [ho, hd.1] at hk
  refine ⟨(v, v'), ⟨_, _, ?_, hk, hk'⟩, hok, hok'⟩
  rw [← List.drop_drop, List.take_append_drop]
theorem opens_struct {α β : Type} {t : TypeId} {fs : Array Field} {d : Kd α} {f : β → α} {g : α → β} {ok : α → Prop} (ht : P.underlying t = some (.struct fs)) (hc : P.cellsOf t = d.sz) (hfg : ∀ a, f (g a) = a) (h : OpensAt enc P w base spare held fs.toList 0 d ok) :
    Opens enc P w base spare held t (Kd.iso d f) (fun v => ok (f v)) := by
  refine ⟨hc, fun fuel cs x hx => ?_⟩
  obtain ⟨xs, n, _, _, hl, hxs, hf⟩ := DataW.trod_struct ht hx
  obtain ⟨v, hk, hok⟩ := h n cs (by rw [hl, hc]; omega) (fun fl hfl => by
    obtain ⟨i, hi, rfl⟩ := List.getElem_of_mem hfl
    have hi' : i < fs.size := by simpa using hi
    refine ⟨xs[i]'(by omega), ?_⟩
    have := hf i fs[i] (by simp [hi'])
    rw [List.getElem?_eq_getElem (by omega)] at this
    simpa using this)
  refine ⟨g v, ?_, by show ok (f (g v)); rw [hfg]; exact hok⟩
  show d.K w (f (g v)) cs
  rw [hfg]
  simpa using hk
end
end Go.Proofs.YtfjkpdhldeopaaaDoor.Rd

namespace Go.Proofs.YtfjkpdhldeopaaaDoor.OFnExactBatchCut
open Go.RowKit Go.Proofs.YtfjkpdhldeopaaaDoorW.PrintWords Go.Proofs.YtfjkpdhldeopaaaDoor.G
set_option linter.unusedVariables false
def Ok71 (x : S71) : Prop := ((Lit.int .i64 x.f0).wf = true) ∧ ((Lit.int .i64 x.f1).wf = true) ∧ (True) ∧ (x.f3.length ≤ maxLen ∧ ∀ y ∈ x.f3, (Lit.int .i64 y).wf = true) ∧ (True) ∧ (x.f5.length ≤ maxLen ∧ ∀ y ∈ x.f5, (Lit.int .i64 y).wf = true)
theorem open71 {H : Type} {enc : TypeId × Value → H} {w : World} {base : Nat} {spare : Nat → Bool} {held : Bool} : Rd.Opens enc Tryd.prog w base spare held 71 k71 Ok71 :=
  Rd.Opens.imp_ (Rd.opens_struct (g := fun p => (⟨p.1, p.2.1, p.2.2.1, p.2.2.2.1, p.2.2.2.2.1, p.2.2.2.2.2⟩ : S71)) Tryd.underlying71 (by kernel_rfl) (fun _ => rfl) (Rd.opens_more rfl (Rd.opens_int Tryd.underlying3 (by kernel_rfl)) (Rd.opens_more rfl (Rd.opens_int Tryd.underlying3 (by kernel_rfl)) (Rd.opens_more rfl (Rd.opens_bool Tryd.underlying4 (by kernel_rfl)) (Rd.opens_more rfl (Rd.opens_slice Tryd.underlying60 (by kernel_rfl) (Rd.opens_int Tryd.underlying3 (by kernel_rfl))) (Rd.opens_more rfl (Rd.opens_bool Tryd.underlying4 (by kernel_rfl)) (Rd.opens_last rfl (Rd.opens_slice Tryd.underlying60 (by kernel_rfl) (Rd.opens_int Tryd.underlying3 (by kernel_rfl)))))))))) (fun _ h => h)
def Ok24 (x : S24) : Prop := (True) ∧ (True) ∧ ((Lit.int .i64 x.f2).wf = true) ∧ ((Lit.int .i64 x.f3).wf = true) ∧ ((Lit.int .i64 x.f4).wf = true) ∧ (x.f5.length ≤ maxLen ∧ ∀ y ∈ x.f5, Ok71 y)
theorem open24 {H : Type} {enc : TypeId × Value → H} {w : World} {base : Nat} {spare : Nat → Bool} {held : Bool} : Rd.Opens enc Tryd.prog w base spare held 24 k24 Ok24 :=
  Rd.Opens.imp_ (Rd.opens_struct (g := fun p => (⟨p.1, p.2.1, p.2.2.1, p.2.2.2.1, p.2.2.2.2.1, p.2.2.2.2.2⟩ : S24)) Tryd.underlying24 (by kernel_rfl) (fun _ => rfl) (Rd.opens_more rfl (Rd.opens_bool Tryd.underlying4 (by kernel_rfl)) (Rd.opens_more rfl (Rd.opens_bool Tryd.underlying4 (by kernel_rfl)) (Rd.opens_more rfl (Rd.opens_int Tryd.underlying3 (by kernel_rfl)) (Rd.opens_more rfl (Rd.opens_int Tryd.underlying3 (by kernel_rfl)) (Rd.opens_more rfl (Rd.opens_int Tryd.underlying3 (by kernel_rfl)) (Rd.opens_last rfl (Rd.opens_slice Tryd.underlying22 (by kernel_rfl) open71)))))))) (fun _ h => h)
def Pure : Prop := ∀ (x0 : S24) (a1 : Int), Ok24 x0 → (Lit.int .i64 a1).wf = true → ∃ k, laws_FnExactBatchCut.f k (x0.f0) (x0.f1) (x0.f2) (x0.f3) (x0.f4) (x0.f5) a1 = some true
end Go.Proofs.YtfjkpdhldeopaaaDoor.OFnExactBatchCut

namespace Go.Proofs.YtfjkpdhldeopaaaDoor.Pu
open Go.RowKit Go.Proofs.YtfjkpdhldeopaaaDoorW.PrintWords Go.Proofs.YtfjkpdhldeopaaaDoorW.PrintLast Go.Proofs.YtfjkpdhldeopaaaDoor.G
set_option linter.unusedVariables false
set_option linter.unusedSimpArgs false
def cvR (r : S71) : S62 := ⟨r.f0, r.f1, r.f2, r.f3, r.f4, r.f5⟩
theorem rdLR_nat (l : List S71) (i : Nat) (h : i < l.length) : rd_T71 l (i : Int) = l[i] := by
  unfold rd_T71
  simp [h]
theorem szIntS_some (l : List Int) (a : Int) (hl : l.length ≤ 9223372036854775807) (h0 : 0 ≤ a) (h1 : a ≤ 1048576) :
    laws_szIntS.f l a = some (if a - (l.length : Int) < 0 then -1 else a - (l.length : Int)) := by
  unfold laws_szIntS.f
  rw [w64 (a := a - (l.length : Int)) (by omega) (by omega)]
  split <;> rfl
/-- What a row of sizes tells: it is too much, or something is left and all is small. -/
def SzR (r : S71) : Prop := r.f3.length ≤ 1048576 ∧ r.f5.length ≤ 1048576
theorem szRecord_some (r : S71) (a : Int) (hl : r.f3.length ≤ 9223372036854775807 ∧ r.f5.length ≤ 9223372036854775807) (h0 : 0 ≤ a) (h1 : a ≤ 1048576) :
    ∃ t, laws_szRecord.f r.f0 r.f1 r.f2 r.f3 r.f4 r.f5 a = some t ∧ (t < 0 ∨ (0 ≤ t ∧ t ≤ a ∧ SzR r)) := by
  unfold laws_szRecord.f
  rw [szIntS_some _ _ hl.1 h0 h1, bindS]
  by_cases h : a - (r.f3.length : Int) < 0
  · rw [if_pos h, if_pos (by omega)]
    exact ⟨_, rfl, .inl (by omega)⟩
  · rw [if_neg h, if_neg h, szIntS_some _ _ hl.2 (by omega) (by omega), bindS]
    by_cases h2 : a - (r.f3.length : Int) - (r.f5.length : Int) < 0
    · rw [if_pos h2, if_pos (by omega)]
      exact ⟨_, rfl, .inl (by omega)⟩
    · rw [if_neg h2, if_neg h2]
      exact ⟨_, rfl, .inr ⟨by omega, by omega, by omega, by omega⟩⟩
theorem szRecordS_loop (l : List S71) (hl : l.length ≤ 9223372036854775807) (hs : ∀ r ∈ l, r.f3.length ≤ 9223372036854775807 ∧ r.f5.length ≤ 9223372036854775807) : ∀ d i (a : Int), l.length - i = d → 0 ≤ a → a ≤ 1048576 →
    EndsIn (fun k => laws_szRecordS.l0 k l a (i : Int)) (fun t => t < 0 ∨ (0 ≤ t ∧ t ≤ a ∧ ∀ r ∈ l.drop i, SzR r)) := by
  intro d
  induction d with
  | zero =>
    intro i a hi h0 h1
    refine EndsIn.step (fun k => by rw [laws_szRecordS.l0]) ?_
    simp only [if_neg (show ¬ ((i : Int) < (l.length : Int)) by omega)]
    refine EndsIn.now _ (.inr ⟨h0, by omega, ?_⟩)
    rw [List.drop_of_length_le (by omega)]
    simp
  | succ d ih =>
    intro i a hi h0 h1
    have hlt : i < l.length := by omega
    refine EndsIn.step (fun k => by rw [laws_szRecordS.l0]) ?_
    obtain ⟨t, ht, hc⟩ := szRecord_some l[i] a (hs _ (List.getElem_mem hlt)) h0 h1
    simp only [if_pos (show ((i : Int) < (l.length : Int)) by omega), if_pos (show (0 : Int) ≤ (i : Int) by omega), rdLR_nat l i hlt, ht, bindS, w64 (a := (i : Int) + 1) (by omega) (by omega)]
    rcases hc with h | ⟨h2, h3, h4⟩
    · simp only [if_pos h]
      exact EndsIn.now _ (.inl (by omega))
    · simp only [if_neg (show ¬ t < 0 by omega)]
      refine (ih (i + 1) t (by omega) h2 (by omega)).mono fun q hq => ?_
      rcases hq with hq | ⟨q0, q1, q2⟩
      · exact .inl hq
      · refine .inr ⟨q0, by omega, ?_⟩
        rw [List.drop_eq_getElem_cons hlt]
        intro g hg
        rcases List.mem_cons.1 hg with rfl | hg
        · exact h4
        · exact q2 g hg
theorem szRecordS_ends (l : List S71) (hl : l.length ≤ 9223372036854775807) (hs : ∀ r ∈ l, r.f3.length ≤ 9223372036854775807 ∧ r.f5.length ≤ 9223372036854775807) (a : Int) (h0 : 0 ≤ a) (h1 : a ≤ 1048576) :
    EndsIn (fun k => laws_szRecordS.f k l a) (fun t => t < 0 ∨ (0 ≤ t ∧ t ≤ a ∧ l.length ≤ 1048576 ∧ ∀ r ∈ l, SzR r)) := by
  unfold laws_szRecordS.f
  rw [w64 (a := a - (l.length : Int)) (by omega) (by omega)]
  by_cases h : a - (l.length : Int) < 0
  · simp only [if_pos h]
    exact EndsIn.now _ (.inl (by omega))
  · simp only [if_neg h]
    refine (szRecordS_loop l hl hs l.length 0 _ (by omega) (by omega) (by omega)).mono fun r hr => ?_
    rcases hr with hr | ⟨q0, q1, q2⟩
    · exact .inl hr
    · exact .inr ⟨q0, by omega, by omega, by simpa using q2⟩
theorem toIntS_loop (l : List Int) (hl : l.length ≤ 1048576) : ∀ d i, l.length - i = d → i ≤ l.length →
    Ev (fun k => laws_toIntS.l0 k l ((l.take i).map (fun x => x) ++ List.replicate (l.length - i) 0) (i : Int)) l := by
  intro d
  induction d with
  | zero =>
    intro i hi hle
    obtain rfl : i = l.length := by omega
    refine Ev.step (fun k => by rw [laws_toIntS.l0]) ?_
    simp only [if_neg (show ¬ ((l.length : Int) < (l.length : Int)) by omega), List.take_length, Nat.sub_self, List.replicate_zero, List.append_nil, List.map_id']
    exact Ev.now _
  | succ d ih =>
    intro i hi hle
    have hlt : i < l.length := by omega
    refine Ev.step (fun k => by rw [laws_toIntS.l0]) ?_
    simp only [if_pos (show ((i : Int) < (l.length : Int)) by omega), if_pos (show (0 : Int) ≤ (i : Int) by omega), rdi_nat l i hlt, fill_len (fun x : Int => x) 0 l i hle, w64 (a := (i : Int) + 1) (by omega) (by omega), Int.toNat_natCast]
    have := ih (i + 1) (by omega) (by omega)
    rw [← fill_set (fun x : Int => x) 0 l i hlt] at this
    exact this
theorem toIntS_ev (l : List Int) (hl : l.length ≤ 1048576) : Ev (fun k => laws_toIntS.f k l) l := by
  unfold laws_toIntS.f
  simp only [if_pos (show (0 : Int) ≤ (l.length : Int) by omega), Int.toNat_natCast, if_pos (show l.length ≤ 35184372088832 by omega)]
  have := toIntS_loop l hl l.length 0 (by omega) (by omega)
  simpa using this
theorem toRecord_ev (r : S71) (h : SzR r) : Ev (fun k => laws_toRecord.f k r.f0 r.f1 r.f2 r.f3 r.f4 r.f5) (r.f0, r.f1, r.f2, r.f3, r.f4, r.f5) := by
  unfold laws_toRecord.f
  exact Ev.bind (toIntS_ev _ h.1) (Ev.bind (toIntS_ev _ h.2) (Ev.now _))
theorem toRecordS_loop (l : List S71) (hl : l.length ≤ 1048576) (hs : ∀ r ∈ l, SzR r) : ∀ d i, l.length - i = d → i ≤ l.length →
    Ev (fun k => laws_toRecordS.l0 k l ((l.take i).map cvR ++ List.replicate (l.length - i) z62) (i : Int)) (l.map cvR) := by
  intro d
  induction d with
  | zero =>
    intro i hi hle
    obtain rfl : i = l.length := by omega
    refine Ev.step (fun k => by rw [laws_toRecordS.l0]) ?_
    simp only [if_neg (show ¬ ((l.length : Int) < (l.length : Int)) by omega), List.take_length, Nat.sub_self, List.replicate_zero, List.append_nil]
    exact Ev.now _
  | succ d ih =>
    intro i hi hle
    have hlt : i < l.length := by omega
    refine Ev.step (fun k => by rw [laws_toRecordS.l0]) ?_
    simp only [if_pos (show ((i : Int) < (l.length : Int)) by omega), if_pos (show (0 : Int) ≤ (i : Int) by omega), rdLR_nat l i hlt, fill_len cvR z62 l i hle, w64 (a := (i : Int) + 1) (by omega) (by omega), Int.toNat_natCast]
    refine Ev.bind (toRecord_ev l[i] (hs _ (List.getElem_mem _))) ?_
    have := ih (i + 1) (by omega) (by omega)
    rw [← fill_set cvR z62 l i hlt] at this
    exact this
theorem toRecordS_ev (l : List S71) (hl : l.length ≤ 1048576) (hs : ∀ r ∈ l, SzR r) : Ev (fun k => laws_toRecordS.f k l) (l.map cvR) := by
  unfold laws_toRecordS.f
  simp only [if_pos (show (0 : Int) ≤ (l.length : Int) by omega), Int.toNat_natCast, if_pos (show l.length ≤ 3518437208883 by omega)]
  have := toRecordS_loop l hl hs l.length 0 (by omega) (by omega)
  simpa using this
theorem all_true {α} (l : List α) : l.all (fun _ => true) = true := List.all_eq_true.2 (fun _ _ => rfl)
theorem eqIntS_ev (l : List Int) (hl : l.length ≤ 9223372036854775807) : Ev (fun k => laws_eqIntS.f k l l) true := by
  unfold laws_eqIntS.f
  simp only [if_true]
  have := ev_all l hl (fun k i => laws_eqIntS.l0 k l l i) (fun k i => some true) (fun _ => true) true
    (fun k => by simp only [laws_eqIntS.l0]; rw [if_neg (by omega)])
    (fun k i h => by simp only [laws_eqIntS.l0]; rw [if_pos (by omega), if_pos (by omega), if_pos (by omega), if_true]; rfl)
    (fun i h => Ev.now _) l.length 0 (by omega) (by omega)
  rw [all_true] at this
  simpa using this
theorem eqRecord_ev (r : S62) (h : Lens r) : Ev (fun k => laws_eqRecord.f k r.f0 r.f1 r.f2 r.f3 r.f4 r.f5 r.f0 r.f1 r.f2 r.f3 r.f4 r.f5) true := by
  unfold laws_eqRecord.f
  simp only [if_true, bne_self_eq_false, Bool.false_eq_true, if_false]
  refine Ev.bind (eqIntS_ev _ h.1) ?_
  simp only [if_true]
  exact Ev.bind (eqIntS_ev _ h.2) (Ev.now _)
theorem eqRecordS_ev (l : List S62) (hl : l.length ≤ 9223372036854775807) (hs : ∀ r ∈ l, Lens r) : Ev (fun k => laws_eqRecordS.f k l l) true := by
  unfold laws_eqRecordS.f
  simp only [if_true]
  have := ev_all l hl (fun k i => laws_eqRecordS.l0 k l l i) (fun k i => laws_eqRecord.f k (rd_T62 l i).f0 (rd_T62 l i).f1 (rd_T62 l i).f2 (rd_T62 l i).f3 (rd_T62 l i).f4 (rd_T62 l i).f5 (rd_T62 l i).f0 (rd_T62 l i).f1 (rd_T62 l i).f2 (rd_T62 l i).f3 (rd_T62 l i).f4 (rd_T62 l i).f5) (fun _ => true) true
    (fun k => by simp only [laws_eqRecordS.l0]; rw [if_neg (by omega)])
    (fun k i h => by simp only [laws_eqRecordS.l0]; rw [if_pos (by omega), if_pos (by omega), if_pos (by omega)])
    (fun i h => by rw [rdR_nat l i h]; exact eqRecord_ev _ (hs _ (List.getElem_mem _))) l.length 0 (by omega) (by omega)
  rw [all_true] at this
  simpa using this
theorem lens_cv {l : List S71} (hs : ∀ r ∈ l, SzR r) : ∀ r ∈ l.map cvR, Lens r := by
  intro r hr
  obtain ⟨x, hx, rfl⟩ := List.mem_map.1 hr
  have := hs x hx
  exact ⟨by have := this.1; show x.f3.length ≤ _; omega, by have := this.2; show x.f5.length ≤ _; omega⟩
end Go.Proofs.YtfjkpdhldeopaaaDoor.Pu

namespace Go.Proofs.YtfjkpdhldeopaaaDoor.Pu
open Go.RowKit Go.Proofs.YtfjkpdhldeopaaaDoorW.PrintWords Go.Proofs.YtfjkpdhldeopaaaDoorW.PrintLast Go.Proofs.YtfjkpdhldeopaaaDoor.G
set_option linter.unusedVariables false
set_option linter.unusedSimpArgs false
def cvB (b : S24) : S28 := ⟨b.f0, b.f1, b.f2, b.f3, b.f4, b.f5.map cvR⟩
def SzB (b : S24) : Prop := b.f5.length ≤ 1048576 ∧ ∀ r ∈ b.f5, SzR r
/-- Parts whose lengths can be told. -/
def LenB (b : S24) : Prop := b.f5.length ≤ 9223372036854775807 ∧ ∀ r ∈ b.f5, r.f3.length ≤ 9223372036854775807 ∧ r.f5.length ≤ 9223372036854775807
theorem szBatch_ends (b : S24) (hs : LenB b) (a : Int) (h0 : 0 ≤ a) (h1 : a ≤ 1048576) :
    EndsIn (fun k => laws_szBatch.f k b.f0 b.f1 b.f2 b.f3 b.f4 b.f5 a) (fun t => t < 0 ∨ (0 ≤ t ∧ t ≤ a ∧ SzB b)) := by
  unfold laws_szBatch.f
  refine EndsIn.bind (szRecordS_ends b.f5 hs.1 hs.2 a h0 h1) fun t ht => ?_
  by_cases h : t < 0
  · simp only [if_pos h]
    exact EndsIn.now _ (.inl (by omega))
  · simp only [if_neg h]
    obtain ⟨t0, t1, n, z⟩ := ht.resolve_left h
    exact EndsIn.now _ (.inr ⟨t0, t1, n, z⟩)
theorem toBatch_ev (b : S24) (h : SzB b) : Ev (fun k => laws_toBatch.f k b.f0 b.f1 b.f2 b.f3 b.f4 b.f5) (b.f0, b.f1, b.f2, b.f3, b.f4, b.f5.map cvR) := by
  unfold laws_toBatch.f
  exact Ev.bind (toRecordS_ev _ h.1 h.2) (Ev.now _)
theorem eqBatch_ev (b : S28) (h : RowR b.f5) : Ev (fun k => laws_eqBatch.f k b.f0 b.f1 b.f2 b.f3 b.f4 b.f5 b.f0 b.f1 b.f2 b.f3 b.f4 b.f5) true := by
  unfold laws_eqBatch.f
  simp only [if_true, bne_self_eq_false, Bool.false_eq_true, if_false]
  refine Ev.bind (eqRecordS_ev _ h.1 h.2) ?_
  simp only [if_true]
  exact Ev.now _
end Go.Proofs.YtfjkpdhldeopaaaDoor.Pu

namespace Go.Proofs.YtfjkpdhldeopaaaDoor.Pu
open Go.RowKit Go.Proofs.YtfjkpdhldeopaaaDoorW.PrintWords Go.Proofs.YtfjkpdhldeopaaaDoorW.PrintLast Go.Proofs.YtfjkpdhldeopaaaDoorW.PrintMore Go.Proofs.YtfjkpdhldeopaaaDoor.G
set_option linter.unusedVariables false
set_option linter.unusedSimpArgs false
abbrev RT := S62
abbrev BT := S28
def aheadL (l : List RT) (o : Int) : List RT := l.filter fun r => decide (r.f0 < o)
def behindL (l : List RT) (o : Int) : List RT := l.filter fun r => !decide (r.f0 < o)
theorem aheadL_cons (x : RT) (l : List RT) (o : Int) : aheadL (x :: l) o = if x.f0 < o then x :: aheadL l o else aheadL l o := by
  unfold aheadL
  rw [List.filter_cons]
  by_cases h : x.f0 < o <;> simp [h]
theorem behindL_cons (x : RT) (l : List RT) (o : Int) : behindL (x :: l) o = if x.f0 < o then behindL l o else x :: behindL l o := by
  unfold behindL
  rw [List.filter_cons]
  by_cases h : x.f0 < o <;> simp [h]
abbrev CutT := Bool × Bool × Int × Int × Int × List RT × Bool × Bool × Int × Int × Int × List RT × Option Int
def cutFin (p : Bool) (a b : List RT) : CutT := if a = [] ∨ b = [] then (false, false, 0, 0, 0, [], false, false, 0, 0, 0, [], some 2) else (p, false, 255, 0, 0, a, p, false, 255, 0, 0, b, none)
theorem copyOf_ev (x : RT) (h : x.f3.length ≤ 12 ∧ x.f5.length ≤ 12) : impl_Record_copyOf.f x.f0 x.f1 x.f2 x.f3 x.f4 x.f5 = some (x.f0, x.f1, x.f2, x.f3, x.f4, x.f5) := by
  simp only [impl_Record_copyOf.f, slices_Clone_int_int.f]
  rw [if_pos (by omega), if_pos (by omega)]
  rfl
theorem cut_loop (l : List RT) (o : Int) (p : Bool) (hl : l.length ≤ 6) (hr : ∀ r ∈ l, r.f3.length ≤ 12 ∧ r.f5.length ≤ 12) : ∀ d i (xs ys : List RT), l.length - i = d → i ≤ l.length → xs.length + ys.length = i →
    Ev (fun k => impl_Batch_cut.l0 k o l (l.length : Int) (i : Int) p false 255 0 0 xs p false 255 0 0 ys) (cutFin p (xs ++ aheadL (l.drop i) o) (ys ++ behindL (l.drop i) o)) := by
  intro d
  induction d with
  | zero =>
    intro i xs ys hd hi hx
    refine Ev.step (fun k => by rw [impl_Batch_cut.l0]) ?_
    rw [List.drop_of_length_le (by omega)]
    simp only [aheadL, behindL, List.filter_nil, List.append_nil, if_neg (show ¬ (i : Int) < (l.length : Int) by omega)]
    by_cases h1 : xs = []
    · have h0 : (xs.length : Int) = 0 := by rw [h1]; rfl
      rw [show cutFin p xs ys = (false, false, 0, 0, 0, [], false, false, 0, 0, 0, [], some 2) by unfold cutFin; rw [if_pos (.inl h1)]]
      simp only [if_pos h0]
      exact Ev.now _
    · have h1' : ¬ ((xs.length : Int) = 0) := by have := List.length_pos_iff.2 h1; omega
      simp only [if_neg h1']
      by_cases h2 : ys = []
      · have h0 : (ys.length : Int) = 0 := by rw [h2]; rfl
        rw [show cutFin p xs ys = (false, false, 0, 0, 0, [], false, false, 0, 0, 0, [], some 2) by unfold cutFin; rw [if_pos (.inr h2)]]
        simp only [if_pos h0]
        exact Ev.now _
      · have h2' : ¬ ((ys.length : Int) = 0) := by have := List.length_pos_iff.2 h2; omega
        rw [show cutFin p xs ys = (p, false, 255, 0, 0, xs, p, false, 255, 0, 0, ys, none) by unfold cutFin; rw [if_neg (by simp [h1, h2])]]
        simp only [if_neg h2']
        exact Ev.now _
  | succ d ih =>
    intro i xs ys hd hi hx
    have hlt : i < l.length := by omega
    refine Ev.step (fun k => by rw [impl_Batch_cut.l0]) ?_
    simp only [if_pos (show (i : Int) < (l.length : Int) by omega), if_pos (show (0 : Int) ≤ (i : Int) by omega), rdR_nat l i hlt, copyOf_ev _ (hr _ (List.getElem_mem hlt)), bindS, w64 (a := (i : Int) + 1) (by omega) (by omega)]
    rw [List.drop_eq_getElem_cons hlt]
    by_cases hc : l[i].f0 < o
    · simp only [if_pos hc, if_pos (show xs.length < 1759218604441 by omega)]
      have := ih (i + 1) (xs ++ [l[i]]) ys (by omega) (by omega) (by simp; omega)
      have e1 : xs ++ aheadL (l[i] :: l.drop (i + 1)) o = (xs ++ [l[i]]) ++ aheadL (l.drop (i + 1)) o := by rw [aheadL_cons, if_pos hc, List.append_assoc]; rfl
      have e2 : behindL (l[i] :: l.drop (i + 1)) o = behindL (l.drop (i + 1)) o := by rw [behindL_cons, if_pos hc]
      rw [e1, e2]
      exact this
    · simp only [if_neg hc, if_pos (show ys.length < 1759218604441 by omega)]
      have := ih (i + 1) xs (ys ++ [l[i]]) (by omega) (by omega) (by simp; omega)
      have e1 : ys ++ behindL (l[i] :: l.drop (i + 1)) o = (ys ++ [l[i]]) ++ behindL (l.drop (i + 1)) o := by rw [behindL_cons, if_neg hc, List.append_assoc]; rfl
      have e2 : aheadL (l[i] :: l.drop (i + 1)) o = aheadL (l.drop (i + 1)) o := by rw [aheadL_cons, if_neg hc]
      rw [e1, e2]
      exact this
def cutV (b : BT) (o : Int) : CutT := if (batOk b && decide (b.f2 = 255)) = true then cutFin b.f0 (aheadL b.f5 o) (behindL b.f5 o) else (false, false, 0, 0, 0, [], false, false, 0, 0, 0, [], some 2)
theorem cut_ev (b : BT) (o : Int) : Ev (fun k => impl_Batch_cut.f k b.f0 b.f1 b.f2 b.f3 b.f4 b.f5 o) (cutV b o) := by
  unfold impl_Batch_cut.f cutV
  simp only [impl_BatchValid.f, bindS]
  cases hv : batOk b
  · simp only [Bool.false_eq_true, if_false, Bool.false_and]
    refine Ev.step (fun k => by rw [impl_Batch_cut.j0]) ?_
    exact Ev.now _
  · simp only [if_true, Bool.true_and]
    refine Ev.step (fun k => by rw [impl_Batch_cut.j0]) ?_
    by_cases h : b.f2 = 255
    · simp only [h, bne_self_eq_false, Bool.false_eq_true, if_false, decide_true, if_true]
      have hlen := batOk_len hv
      have hrec : ∀ r ∈ b.f5, r.f3.length ≤ 12 ∧ r.f5.length ≤ 12 := fun r hr => by
        obtain ⟨i, hi, rfl⟩ := List.getElem_of_mem hr
        exact recOk_len (batOk_rec hv i hi)
      have := cut_loop b.f5 o b.f0 hlen.2 hrec _ 0 [] [] rfl (by omega) (by simp)
      simpa using this
    · simp only [show (b.f2 != 255) = true by simp [h], if_true, decide_eq_false h, Bool.false_eq_true, if_false]
      exact Ev.now _
abbrev BCutT := Bool × Bool × Int × Int × Int × List RT × Bool × Bool × Int × Int × Int × List RT × Bool
def cutGood (b : BT) (o : Int) : Bool := (batOk b && decide (b.f2 = 255)) && (!(aheadL b.f5 o).isEmpty && !(behindL b.f5 o).isEmpty)
def bcutV (b : BT) (o : Int) : BCutT := if cutGood b o = true then (b.f0, false, 255, 0, 0, aheadL b.f5 o, b.f0, false, 255, 0, 0, behindL b.f5 o, true) else (false, false, 0, 0, 0, [], false, false, 0, 0, 0, [], false)
theorem BatchCut_ev (b : BT) (o : Int) : Ev (fun k => impl_BatchCut.f k b.f0 b.f1 b.f2 b.f3 b.f4 b.f5 o) (bcutV b o) := by
  unfold impl_BatchCut.f
  refine Ev.bind (cut_ev b o) ?_
  unfold bcutV cutGood cutV
  cases hv : (batOk b && decide (b.f2 = 255))
  · simp only [Bool.false_eq_true, if_false, Bool.false_and, errors_Is.f, if_true, bindS]
    exact Ev.now _
  · simp only [if_true, Bool.true_and, cutFin]
    by_cases h : aheadL b.f5 o = [] ∨ behindL b.f5 o = []
    · have h' : (!(aheadL b.f5 o).isEmpty && !(behindL b.f5 o).isEmpty) = false := by
        rcases h with h | h <;> simp [h]
      simp only [if_pos h, h', errors_Is.f, if_true, bindS, Bool.false_eq_true, if_false]
      exact Ev.now _
    · have h' : (!(aheadL b.f5 o).isEmpty && !(behindL b.f5 o).isEmpty) = true := by
        rw [not_or] at h
        simp [h.1, h.2]
      simp only [if_neg h, h', errors_Is.f, bindS, Bool.false_eq_true, if_false, if_true]
      exact Ev.now _
end Go.Proofs.YtfjkpdhldeopaaaDoor.Pu

namespace Go.Proofs.YtfjkpdhldeopaaaDoor.Pu
open Go.RowKit Go.Proofs.YtfjkpdhldeopaaaDoorW.PrintWords Go.Proofs.YtfjkpdhldeopaaaDoorW.PrintLast Go.Proofs.YtfjkpdhldeopaaaDoorW.PrintMore Go.Proofs.YtfjkpdhldeopaaaDoor.G
set_option linter.unusedVariables false
set_option linter.unusedSimpArgs false
def ShortR (l : List RT) : Prop := l.length ≤ 6 ∧ ∀ r ∈ l, r.f3.length ≤ 12 ∧ r.f5.length ≤ 12
theorem short_of {b : BT} (h : batOk b = true) : ShortR b.f5 := ⟨(batOk_len h).2, fun r hr => by
  obtain ⟨i, hi, rfl⟩ := List.getElem_of_mem hr
  exact recOk_len (batOk_rec h i hi)⟩
theorem l12Copy_ev (x : RT) (h : x.f3.length ≤ 12 ∧ x.f5.length ≤ 12) : spec_l12Copy.f x.f0 x.f1 x.f2 x.f3 x.f4 x.f5 = some (x.f0, x.f1, x.f2, x.f3, x.f4, x.f5) := by
  unfold spec_l12Copy.f
  simp only [bindS, List.length_nil, List.nil_append]
  rw [if_pos (by omega), if_pos (by omega)]
theorem free_loop (p : Bool) (l : List RT) (h : l.length ≤ 12 ∧ ∀ r ∈ l, r.f3.length ≤ 12 ∧ r.f5.length ≤ 12) : ∀ d i, l.length - i = d → i ≤ l.length → Ev (fun k => spec_l31Free.l0 k l (i : Int) p false 255 0 0 (l.take i)) (p, false, 255, 0, 0, l) := by
  intro d
  induction d with
  | zero =>
    intro i hd hi
    refine Ev.step (fun k => by rw [spec_l31Free.l0]) ?_
    simp only [if_neg (show ¬ (i : Int) < (l.length : Int) by omega), List.take_of_length_le (show l.length ≤ i by omega)]
    exact Ev.now _
  | succ d ih =>
    intro i hd hi
    have hlt : i < l.length := by omega
    have hl := h.1
    refine Ev.step (fun k => by rw [spec_l31Free.l0]) ?_
    simp only [if_pos (show (i : Int) < (l.length : Int) by omega), if_pos (show (0 : Int) ≤ (i : Int) by omega), rdR_nat l i hlt, l12Copy_ev _ (h.2 _ (List.getElem_mem hlt)), bindS, w64 (a := (i : Int) + 1) (by omega) (by omega), if_pos (show (l.take i).length < 1759218604441 by rw [List.length_take]; omega)]
    have := ih (i + 1) (by omega) (by omega)
    rw [← List.take_append_getElem hlt] at this
    exact this
theorem free_ev12 (p : Bool) (l : List RT) (h : l.length ≤ 12 ∧ ∀ r ∈ l, r.f3.length ≤ 12 ∧ r.f5.length ≤ 12) : Ev (fun k => spec_l31Free.f k p l) (p, false, 255, 0, 0, l) := by
  unfold spec_l31Free.f
  have := free_loop p l h _ 0 rfl (by omega)
  simpa using this
theorem free_ev (p : Bool) (l : List RT) (h : ShortR l) : Ev (fun k => spec_l31Free.f k p l) (p, false, 255, 0, 0, l) := free_ev12 p l ⟨Nat.le_trans h.1 (by omega), h.2⟩
theorem ShortR.take {l : List RT} (h : ShortR l) (n : Nat) : ShortR (l.take n) := ⟨by rw [List.length_take]; have := h.1; omega, fun r hr => h.2 r (List.mem_of_mem_take hr)⟩
theorem ShortR.drop {l : List RT} (h : ShortR l) (n : Nat) : ShortR (l.drop n) := ⟨by rw [List.length_drop]; have := h.1; omega, fun r hr => h.2 r (List.mem_of_mem_drop hr)⟩
end Go.Proofs.YtfjkpdhldeopaaaDoor.Pu

namespace Go.Proofs.YtfjkpdhldeopaaaDoor.Pu
open Go.RowKit Go.Proofs.YtfjkpdhldeopaaaDoorW.PrintWords Go.Proofs.YtfjkpdhldeopaaaDoorW.PrintLast Go.Proofs.YtfjkpdhldeopaaaDoorW.PrintMore Go.Proofs.YtfjkpdhldeopaaaDoor.G
set_option linter.unusedVariables false
set_option linter.unusedSimpArgs false
/-- Offsets that grow. -/
def Inc : List RT → Prop
  | [] => True
  | x :: l => (∀ y ∈ l, x.f0 < y.f0) ∧ Inc l
theorem inc_of : ∀ (l : List RT), (∀ i (h : i + 1 < l.length), l[i].f0 < l[i + 1].f0) → Inc l
  | [], _ => trivial
  | [x], _ => ⟨fun y hy => by simp at hy, trivial⟩
  | x :: z :: l, h => by
    have h1 := inc_of (z :: l) fun i hi => h (i + 1) (by simp only [List.length_cons] at hi ⊢; omega)
    have h0 : x.f0 < z.f0 := h 0 (by simp)
    refine ⟨fun y hy => ?_, h1⟩
    rcases List.mem_cons.1 hy with rfl | hy
    · exact h0
    · have := h1.1 y hy
      omega
theorem inc_bat {b : BT} (h : batOk b = true) : Inc b.f5 := by
  refine inc_of _ fun i hi => ?_
  unfold batOk at h
  simp only [Bool.and_eq_true] at h
  have := List.all_eq_true.1 h.2.2.2 (i + 1) (by simp [List.mem_range']; omega)
  unfold recStep at this
  rw [rdR_nat b.f5 (i + 1) hi, show ((i + 1 : Nat) : Int) - 1 = (i : Int) by omega, rdR_nat b.f5 i (by omega)] at this
  simpa using (Bool.and_eq_true_iff.1 this).2
/-- How many lie ahead of an offset, from the first one on. -/
def cutAt (l : List RT) (o : Int) : Nat := (l.takeWhile fun r => decide (r.f0 < o)).length
theorem cutAt_cons (x : RT) (l : List RT) (o : Int) : cutAt (x :: l) o = if x.f0 < o then cutAt l o + 1 else 0 := by
  unfold cutAt
  rw [List.takeWhile_cons]
  by_cases h : x.f0 < o <;> simp [h]
theorem cutAt_le : ∀ (l : List RT) (o : Int), cutAt l o ≤ l.length
  | [], _ => by simp [cutAt]
  | x :: l, o => by
    rw [cutAt_cons]
    have := cutAt_le l o
    split <;> simp <;> omega
theorem cut_parts : ∀ (l : List RT) (o : Int), Inc l → aheadL l o = l.take (cutAt l o) ∧ behindL l o = l.drop (cutAt l o)
  | [], _, _ => by simp [aheadL, behindL, cutAt]
  | x :: l, o, h => by
    rw [cutAt_cons, aheadL_cons, behindL_cons]
    obtain ⟨h1, h2⟩ := cut_parts l o h.2
    by_cases hc : x.f0 < o
    · rw [if_pos hc, if_pos hc, if_pos hc, h1, h2]
      exact ⟨rfl, rfl⟩
    · rw [if_neg hc, if_neg hc, if_neg hc]
      have ha : aheadL l o = [] := List.filter_eq_nil_iff.2 fun y hy => by have := h.1 y hy; simp; omega
      have hb : behindL l o = l := List.filter_eq_self.2 fun y hy => by have := h.1 y hy; simp; omega
      rw [ha, hb]
      exact ⟨rfl, rfl⟩
theorem sCut_loop (p b1 : Bool) (b2 b3 b4 : Int) (l : List RT) (o : Int) (hl : l.length ≤ 6) {r : BCutT} (hj : Ev (fun k => spec_BatchCut.j2 k ((cutAt l o : Nat) : Int) p b1 b2 b3 b4 l) r) : ∀ d i, l.length - i = d → i ≤ l.length → i + cutAt (l.drop i) o = cutAt l o →
    Ev (fun k => spec_BatchCut.l0 k o (i : Int) p b1 b2 b3 b4 l) r := by
  intro d
  induction d with
  | zero =>
    intro i hd hi hc
    refine Ev.step (fun k => by rw [spec_BatchCut.l0]) ?_
    simp only [if_neg (show ¬ (i : Int) < (l.length : Int) by omega)]
    rw [List.drop_of_length_le (by omega)] at hc
    have : i = cutAt l o := by simpa [cutAt] using hc
    rw [this]
    exact hj
  | succ d ih =>
    intro i hd hi hc
    have hlt : i < l.length := by omega
    refine Ev.step (fun k => by rw [spec_BatchCut.l0]) ?_
    simp only [if_pos (show (i : Int) < (l.length : Int) by omega), if_pos (show (0 : Int) ≤ (i : Int) by omega), rdR_nat l i hlt, w64 (a := (i : Int) + 1) (by omega) (by omega)]
    rw [List.drop_eq_getElem_cons hlt, cutAt_cons] at hc
    by_cases h : l[i].f0 < o
    · simp only [if_pos h]
      rw [if_pos h] at hc
      exact ih (i + 1) (by omega) (by omega) (by omega)
    · simp only [if_neg h]
      rw [if_neg h] at hc
      have : i = cutAt l o := by omega
      rw [this]
      exact hj
theorem sBatchCut_ev (b : BT) (o : Int) : Ev (fun k => spec_BatchCut.f k b.f0 b.f1 b.f2 b.f3 b.f4 b.f5 o) (bcutV b o) := by
  unfold spec_BatchCut.f
  simp only [spec_BatchValid.f, bindS]
  unfold bcutV cutGood
  cases hv : batOk b
  · simp only [Bool.false_eq_true, if_false, Bool.false_and]
    refine Ev.step (fun k => by rw [spec_BatchCut.j0]) ?_
    exact Ev.now _
  · simp only [if_true, Bool.true_and]
    refine Ev.step (fun k => by rw [spec_BatchCut.j0]) ?_
    by_cases h : b.f2 = 255
    · have hS := short_of hv
      have hle := cutAt_le b.f5 o
      obtain ⟨e1, e2⟩ := cut_parts b.f5 o (inc_bat hv)
      rw [e1, e2]
      simp only [h, bne_self_eq_false, Bool.false_eq_true, if_false, decide_true, Bool.true_and]
      refine sCut_loop _ _ _ _ _ _ _ hS.1 ?_ _ 0 rfl (by omega) (by simp)
      refine Ev.step (fun k => by rw [spec_BatchCut.j2]) ?_
      have hb : (!(b.f5.take (cutAt b.f5 o)).isEmpty && !(b.f5.drop (cutAt b.f5 o)).isEmpty) = (!decide (cutAt b.f5 o = 0) && !decide (cutAt b.f5 o = b.f5.length)) := by
        have h0 := hS.1
        have h1 := (batOk_len hv).1
        congr 1
        · by_cases hz : cutAt b.f5 o = 0
          · simp [hz]
          · have : b.f5.take (cutAt b.f5 o) ≠ [] := fun e => by have := congrArg List.length e; rw [List.length_take, List.length_nil] at this; omega
            simp [hz, List.isEmpty_eq_false_iff.2 this]
        · by_cases hz : cutAt b.f5 o = b.f5.length
          · simp [hz]
          · have : b.f5.drop (cutAt b.f5 o) ≠ [] := fun e => by have := congrArg List.length e; rw [List.length_drop, List.length_nil] at this; omega
            simp [hz, List.isEmpty_eq_false_iff.2 this]
      rw [hb]
      by_cases h0 : cutAt b.f5 o = 0
      · simp only [if_pos (show ((cutAt b.f5 o : Nat) : Int) = 0 by omega), decide_eq_true h0, Bool.not_true, Bool.false_and, Bool.false_eq_true, if_false]
        refine Ev.step (fun k => by rw [spec_BatchCut.j3]) ?_
        simp only [if_true]
        exact Ev.now _
      · simp only [if_neg (show ¬ ((cutAt b.f5 o : Nat) : Int) = 0 by omega), decide_eq_false h0, Bool.not_false, Bool.true_and]
        refine Ev.step (fun k => by rw [spec_BatchCut.j3]) ?_
        by_cases h1 : cutAt b.f5 o = b.f5.length
        · simp only [show (((cutAt b.f5 o : Nat) : Int) == (b.f5.length : Int)) = true by rw [beq_iff_eq]; omega, if_true, decide_eq_true h1, Bool.not_true, Bool.false_eq_true, if_false]
          exact Ev.now _
        · simp only [show (((cutAt b.f5 o : Nat) : Int) == (b.f5.length : Int)) = false by rw [beq_eq_false_iff_ne]; omega, Bool.false_eq_true, if_false, decide_eq_false h1, Bool.not_false, if_true, if_pos (show (0 : Int) ≤ ((cutAt b.f5 o : Nat) : Int) by omega), if_pos (show ((cutAt b.f5 o : Nat) : Int) ≤ (b.f5.length : Int) by omega), Int.toNat_natCast]
          refine Ev.bind (free_ev _ _ (hS.take _)) ?_
          refine Ev.bind (free_ev _ _ (hS.drop _)) ?_
          exact Ev.now _
    · simp only [show (b.f2 != 255) = true by simp [h], if_true, decide_eq_false h, Bool.false_and, Bool.false_eq_true, if_false]
      exact Ev.now _
end Go.Proofs.YtfjkpdhldeopaaaDoor.Pu

namespace Go.Proofs.YtfjkpdhldeopaaaDoor.Pu
open Go.RowKit Go.Proofs.YtfjkpdhldeopaaaDoorW.PrintWords Go.Proofs.YtfjkpdhldeopaaaDoorW.PrintLast Go.Proofs.YtfjkpdhldeopaaaDoor.G
set_option linter.unusedVariables false
set_option linter.unusedSimpArgs false
theorem mkRow_rd (a : Int) (l : List S62) (i : Nat) (h : i < l.length) : rd_T62 (mkRow a l) (i : Int) = mkRec (a + (totR (l.take i) : Int)) l[i] := by
  rw [rdR_nat _ _ (by rw [mkRow_len]; exact h)]
  have e : mkRow a l = mkRow a (l.take i) ++ mkRow (a + (totR (l.take i) : Int)) (l.drop i) := by rw [← mkRow_append, List.take_append_drop]
  have hl : (mkRow a (l.take i)).length = i := by rw [mkRow_len, List.length_take]; omega
  have : (mkRow a l)[i]? = some (mkRec (a + (totR (l.take i) : Int)) l[i]) := by
    rw [e, List.getElem?_append_right (by omega), hl, Nat.sub_self, List.drop_eq_getElem_cons h]
    simp [mkRow]
  exact (List.getElem?_eq_some_iff.1 this).2
theorem heldR_loop (a : Int) (l : List S62) (hl : l.length ≤ 9223372036854775806) (h0 : 0 ≤ a) (h1 : a + (totR l : Int) ≤ 4000000000000000000) : ∀ d i, l.length - i = d → i ≤ l.length → Ev (fun k => laws_heldRecordS.l0 k (mkRow a l) (a + (totR (l.take i) : Int)) (i : Int)) (a + (totR l : Int)) := by
  intro d
  induction d with
  | zero =>
    intro i hd hi
    obtain rfl : i = l.length := by omega
    refine Ev.step (fun k => by rw [laws_heldRecordS.l0]) ?_
    rw [mkRow_len, List.take_length]
    simp only [if_neg (show ¬ ((l.length : Int) < (l.length : Int)) by omega)]
    exact Ev.now _
  | succ d ih =>
    intro i hd hi
    have hlt : i < l.length := by omega
    refine Ev.step (fun k => by rw [laws_heldRecordS.l0]) ?_
    rw [mkRow_len]
    have hrd := mkRow_rd a l i hlt
    have hnx := totR_take hlt
    have hle := cntR_le hlt
    have ih' := ih (i + 1) (by omega) (by omega)
    rw [hnx] at ih'
    have hb0 : 0 ≤ a + (totR (l.take i) : Int) := by omega
    have hb1 : a + (totR (l.take i) : Int) + (cntR l[i] : Int) ≤ 4000000000000000000 := by omega
    rw [show a + ((totR (l.take i) + cntR l[i] : Nat) : Int) = a + (totR (l.take i) : Int) + (cntR l[i] : Int) by omega] at ih'
    clear hnx hle
    generalize a + (totR (l.take i) : Int) = x1 at *
    rw [hrd]
    generalize l[i] = x at *
    have hc : (cntR x : Int) = 4 + x.f3.length + x.f5.length := by simp [cntR]
    have q7 : (i : Int) < (l.length : Int) := by clear ih ih' hrd; omega
    have q8 : (0 : Int) ≤ (i : Int) := by clear ih ih' hrd; omega
    have q9 : ¬ (x1 + 3 + (x.f3.length : Int) < 0) := by clear ih ih' hrd; omega
    have q10 : ¬ (x1 + 4 + (x.f3.length : Int) + (x.f5.length : Int) < 0) := by clear ih ih' hrd; omega
    have q11 : x1 + 4 + (x.f3.length : Int) + (x.f5.length : Int) = x1 + (cntR x : Int) := by clear ih ih' hrd; omega
    have q1 : x.f3.length ≤ 4000000000000000000 := by clear ih ih' hrd; omega
    have q2 : x.f5.length ≤ 4000000000000000000 := by clear ih ih' hrd; omega
    have q3 : 0 ≤ x1 + 3 := by clear ih ih' hrd; omega
    have q4 : x1 + 3 ≤ 4000000000000000000 := by clear ih ih' hrd; omega
    have q5 : 0 ≤ x1 + 4 + (x.f3.length : Int) := by clear ih ih' hrd; omega
    have q6 : x1 + 4 + (x.f3.length : Int) ≤ 4000000000000000000 := by clear ih ih' hrd; omega
    have wA : wrap64 (x1 + 1) = x1 + 1 := w64 (a := x1 + 1) (by omega) (by omega)
    have wB : wrap64 (x1 + 1 + 1) = x1 + 2 := by rw [w64 (a := x1 + 1 + 1) (by omega) (by omega)]; omega
    have wC : wrap64 (x1 + 2 + 1) = x1 + 3 := by rw [w64 (a := x1 + 2 + 1) (by omega) (by omega)]; omega
    have wD : wrap64 (x1 + 3 + (x.f3.length : Int) + 1) = x1 + 4 + x.f3.length := by rw [w64 (a := x1 + 3 + (x.f3.length : Int) + 1) (by omega) (by omega)]; omega
    have wE : wrap64 ((i : Int) + 1) = (i : Int) + 1 := w64 (a := (i : Int) + 1) (by omega) (by omega)
    simp only [if_pos q7, if_pos q8, mkRec, if_true, wA, wB, wC, bne_self_eq_false, Bool.false_eq_true, if_false]
    refine Ev.bind (heldIntS_ev (x1 + 3) x.f3.length q1 q3 q4) ?_
    simp only [if_neg q9, bne_self_eq_false, Bool.false_eq_true, if_false, wD]
    refine Ev.bind (heldIntS_ev (x1 + 4 + x.f3.length) x.f5.length q2 q5 q6) ?_
    simp only [if_neg q10, wE]
    rw [q11]
    exact ih'
theorem heldRecordS_ev (a : Int) (l : List S62) (hl : l.length ≤ 9223372036854775806) (h0 : 0 ≤ a) (h1 : a + (totR l : Int) ≤ 4000000000000000000) : Ev (fun k => laws_heldRecordS.f k (mkRow a l) a) (a + (totR l : Int)) := by
  unfold laws_heldRecordS.f
  have := heldR_loop a l hl h0 h1 l.length 0 (by omega) (by omega)
  simpa [totR] using this
theorem totR_small : ∀ (l : List S62), (∀ r ∈ l, r.f3.length ≤ 1048576 ∧ r.f5.length ≤ 1048576) → totR l ≤ l.length * 2097156
  | [], _ => by simp [totR]
  | x :: l, h => by
    have h1 := h x List.mem_cons_self
    have h2 := totR_small l (fun r hr => h r (List.mem_cons_of_mem _ hr))
    simp only [totR, cntR, List.length_cons, Nat.add_mul]
    omega
end Go.Proofs.YtfjkpdhldeopaaaDoor.Pu

namespace Go.Proofs.YtfjkpdhldeopaaaDoor.Pure
open Go.RowKit Go.Proofs.YtfjkpdhldeopaaaDoor.G Go.Proofs.YtfjkpdhldeopaaaDoorW.PrintWords Go.Proofs.YtfjkpdhldeopaaaDoorW.PrintLast Go.Proofs.YtfjkpdhldeopaaaDoor.Pu
set_option linter.unusedSimpArgs false
def bC0 (g : BCutT) : S28 := ⟨g.1, g.2.1, g.2.2.1, g.2.2.2.1, g.2.2.2.2.1, g.2.2.2.2.2.1⟩
def bC1 (g : BCutT) : S28 := ⟨g.2.2.2.2.2.2.1, g.2.2.2.2.2.2.2.1, g.2.2.2.2.2.2.2.2.1, g.2.2.2.2.2.2.2.2.2.1, g.2.2.2.2.2.2.2.2.2.2.1, g.2.2.2.2.2.2.2.2.2.2.2.1⟩
theorem heldBatchC_ev (b : S28) (l : List S62) (a : Int) (hl : l.length ≤ 9223372036854775806) (h0 : 0 ≤ a) (h1 : a + (totR l : Int) ≤ 4000000000000000000) : Ev (fun k => laws_heldBatch.f k b.f0 b.f1 b.f2 b.f3 b.f4 (mkRow a l) a) (a + (totR l : Int)) := by
  unfold laws_heldBatch.f
  refine Ev.bind (heldRecordS_ev a l hl h0 h1) ?_
  rw [if_neg (by omega)]
  exact Ev.now _
theorem FnExactBatchCut : OFnExactBatchCut.Pure := by
  intro a o ha _
  have la : LenB a := ⟨ha.2.2.2.2.2.1, fun r hr => ⟨(ha.2.2.2.2.2.2 r hr).2.2.2.1.1, (ha.2.2.2.2.2.2 r hr).2.2.2.2.2.1⟩⟩
  obtain ⟨t, ⟨K0, e0⟩, ht⟩ := szBatch_ends a la 1048576 (by omega) (by omega)
  by_cases h : t < 0
  · refine ⟨K0, ?_⟩
    unfold laws_FnExactBatchCut.f
    rw [if_pos (.inl ⟨t, e0 K0 (Nat.le_refl _), h⟩)]
  · obtain ⟨t0, t1, z0⟩ := ht.resolve_left h
    have rr : RowR (cvB a).f5 := ⟨by show (a.f5.map cvR).length ≤ _; rw [List.length_map]; have := z0.1; omega, lens_cv z0.2⟩
    have xl : (cvB a).f5.length ≤ 1048576 := by show (a.f5.map cvR).length ≤ _; rw [List.length_map]; exact z0.1
    have small : ∀ (l : List S62), l.length ≤ 1048576 → (∀ r ∈ l, r.f3.length ≤ 1048576 ∧ r.f5.length ≤ 1048576) → (totR l : Int) ≤ 100000000000000 := by
      intro l hn hz
      have := totR_small l hz
      omega
    have mem : ∀ r ∈ (cvB a).f5, r.f3.length ≤ 1048576 ∧ r.f5.length ≤ 1048576 := by
      intro r hr
      obtain ⟨y, hy, rfl⟩ := List.mem_map.1 hr
      exact z0.2 y hy
    have sub : ∀ g : BCutT, g = bcutV (cvB a) o → (∀ r ∈ (bC0 g).f5, r ∈ (cvB a).f5) ∧ (∀ r ∈ (bC1 g).f5, r ∈ (cvB a).f5) ∧ (bC0 g).f5.length ≤ 1048576 ∧ (bC1 g).f5.length ≤ 1048576 := by
      rintro g rfl
      unfold bcutV
      split
      · exact ⟨fun r hr => (List.mem_filter.1 hr).1, fun r hr => (List.mem_filter.1 hr).1, Nat.le_trans (List.length_filter_le _ _) xl, Nat.le_trans (List.length_filter_le _ _) xl⟩
      · exact ⟨by simp [bC0], by simp [bC1], by simp [bC0], by simp [bC1]⟩
    obtain ⟨g, hg⟩ : ∃ g, g = bcutV (cvB a) o := ⟨_, rfl⟩
    obtain ⟨m0, m1, n0, n1⟩ := sub g hg
    have R0 : RowR (bC0 g).f5 := ⟨by omega, fun r hr => rr.2 r (m0 r hr)⟩
    have R1 : RowR (bC1 g).f5 := ⟨by omega, fun r hr => rr.2 r (m1 r hr)⟩
    have bx := small _ xl mem
    have b0 := small _ n0 (fun r hr => mem r (m0 r hr))
    have b1 := small _ n1 (fun r hr => mem r (m1 r hr))
    obtain ⟨K2, e2⟩ := toBatch_ev a z0
    obtain ⟨K4, e4⟩ := sBatchCut_ev (cvB a) o
    obtain ⟨K5, e5⟩ := BatchCut_ev (cvB a) o
    rw [← hg] at e4 e5
    obtain ⟨K6, e6⟩ := eqBatch_ev (bC0 g) R0
    obtain ⟨K7, e7⟩ := eqBatch_ev (bC1 g) R1
    obtain ⟨K8, e8⟩ := eqBatch_ev (cvB a) rr
    obtain ⟨K9, e9⟩ := heldBatchC_ev (bC0 g) (bC0 g).f5 1 (by omega) (by omega) (by omega)
    obtain ⟨K10, e10⟩ := heldBatchC_ev (bC1 g) (bC1 g).f5 (1 + (totR (bC0 g).f5 : Int)) (by omega) (by omega) (by omega)
    refine ⟨K0 + K2 + K4 + K5 + K6 + K7 + K8 + K9 + K10, ?_⟩
    unfold laws_FnExactBatchCut.f
    rw [if_pos (.inr ⟨t, cvB a, bC0 g, bC1 g, g.2.2.2.2.2.2.2.2.2.2.2.2, e0 _ (by omega), by omega, e2 _ (by omega), e4 _ (by omega), e5 _ (by omega), e6 _ (by omega), e7 _ (by omega), e8 _ (by omega), e9 _ (by omega), e10 _ (by omega), bx, b0, b1⟩)]
end Go.Proofs.YtfjkpdhldeopaaaDoor.Pure

namespace Go.Proofs.YtfjkpdhldeopaaaDoor.fnExactBatchCut
open Go.ChangeShapes Go.WideShapes Go.ChangeAt Go.RowKit Go.Proofs.YtfjkpdhldeopaaaDoor.OFnExactBatchCut Go.Proofs.YtfjkpdhldeopaaaDoor.G Go.Joins
open Go.ChangeMaps (open_string shut_string)
set_option linter.unusedVariables false
theorem own : ownKnob Tryd.prog.godebug = none := by kernel_rfl
theorem laidOut : laidOutB Tryd.prog = true := by kernel_rfl
theorem star : "*" ++ "errors.errorString" = "*errors.errorString" := by decide
theorem cellsE : Tryd.prog.cellsOf 128 = 1 := by kernel_rfl
theorem cellsS : Tryd.prog.cellsOf 9 = 1 := by kernel_rfl
theorem g0 : Tryd.prog.globalNamed "loop.example/recordbatches/impl.errNoCut" = some 1 := by kernel_rfl
theorem gT0 : (Tryd.prog.globals[1]?).map (·.type) = some 54 := by kernel_rfl
abbrev text0 : ByteArray := { data := #[110, 111, 32, 99, 117, 116] }
theorem rowE (u : TypeId) (h : Tryd.prog.typeName? 3 u = some "*errors.errorString") : u = 103 :=
  typeName_ptr_named (nm := "errors.errorString") (by rw [star]; kernel_rfl) (by kernel_rfl) (by decide) u (by rw [star]; exact h)
noncomputable def low : Nat := (World.holding Tryd.prog default ⟨#[], #[], []⟩).heap.size
noncomputable def laidWorld (os : Os) : World :=
  let w0 := World.holding Tryd.prog os ⟨#[.cells #[.string text0] 128], #[], []⟩
  { w0 with heap := (w0.heap.modify 1 fun | .cells _ t frozen => .cells #[.iface 103 (.pointer (some ⟨low + 0, 0, none⟩))] t frozen | o => o) }
theorem laid_met (os : Os) (args : Array Value) : laidMetH Tryd.prog Rows.fnExactBatchCutRow.laid ((laidWorld os).forCall (fun _ _ => 0) ⟨#[], args, []⟩).memory :=
  laidMetH_of_parts (laidMet_of_run (ps := [.cell 1 0, .cell (low + 0) 0]) 8 (by kernel_rfl) (by kernel_rfl) (by kernel_rfl)) (by kernel_rfl)
set_option maxRecDepth 100000 in
theorem lifted (os : Os) (started : os.Started) (H : Type) (enc : TypeId × Value → H) :
    ReturnsInHanded {} Tryd.checked os 4 .any (fun w args => (Rows.fnExactBatchCutSpec.pre enc Tryd.prog Tryd.f4 Rows.fnExactBatchCutRow.domain false w args ∧ laidMetH Tryd.prog Rows.fnExactBatchCutRow.laid w) ∧ sizedMet enc Tryd.prog Tryd.f4 (OpenSpec.ofChange Rows.fnExactBatchCutSpec) false w args) (Rows.fnExactBatchCutSpec.post enc Tryd.prog Tryd.f4 false true false false) := by
  refine returnsInHanded_of_change_and (C := Tryd.checked) (X := fun w _ => laidMetH Tryd.prog Rows.fnExactBatchCutRow.laid w) (fun _ _ _ hh h => h.of_heap hh) own started (by kernel_rfl) Tryd.func4
    (ChangeSpec.witness_at (enc := enc) (C := Tryd.checked) (os := os) (X := fun w _ => laidMetH Tryd.prog Rows.fnExactBatchCutRow.laid w) false (laidWorld os) #[.agg #[.bool false, .bool false, .int .i64 0, .int .i64 0, .int .i64 0, .slice none 0 0], .int .i64 0] 8 rfl (by kernel_rfl) (by kernel_rfl) (by kernel_rfl) (by kernel_rfl) (by kernel_rfl) (laid_met os _)) ?_
  intro W base args ds gs before hval0 hW hcnd hsz0 hLL _
  have hsz : (DataW.weightsEach Tryd.prog (Tryd.f4.params.toList ++ Rows.fnExactBatchCutSpec.plain.varTypes Tryd.prog) (ds ++ gs)).all (· ≤ reachBytes) = true := hsz0
  have hval : ∀ (j : Nat) t v, Tryd.f4.params[j]? = some t → args[j]? = some v → Value.okWide Tryd.prog W .any base t v := hval0
  have hW' := hW
  obtain ⟨p, q, hA0, hV, rfl, hfz, hnd⟩ := hW
  have hA : DataW.TrodAll enc Tryd.prog W 0 (fun _ => true) true Tryd.f4.params.toList args.toList ds p := hA0
  rw [Tryd.params4] at hA hval hsz
  obtain ⟨v0, vs0, d0, ds0, p0, q0, hargs, rfl, rfl, h0, r0⟩ := trodAll_cons hA
  obtain ⟨v1, vs1, d1, ds1, p1, q1, rfl, rfl, rfl, h1, r1⟩ := trodAll_cons r0
  obtain ⟨rfl, rfl, rfl⟩ := trodAll_nil r1
  obtain rfl : args = #[v0, v1] := by cases args; simp_all
  have hL : laidMet Tryd.prog Rows.fnExactBatchCutRow.laid W := hLL
  obtain ⟨b0, s0, hv0, hc0, hs0, hz0⟩ := laid_sentinel hL g0 gT0 Tryd.underlying54 rowE Tryd.underlying103 Tryd.underlying128 rfl rfl Tryd.underlying9 cellsE cellsS
  obtain ⟨rfl, rfl⟩ := hV.unique (vars_read1 enc g0 gT0 Tryd.underlying54 hv0 trivial _)
  have hg0 : W.cell? ⟨1, 0, none⟩ = some (.iface 103 (.pointer (some b0))) := by simpa using World.var?_cell g0 hv0 0
  obtain ⟨cs0, rfl, hsz0⟩ := okWide_struct Tryd.underlying24 (hval 0 24 v0 rfl rfl)
  have k0 := h0
  have lt0 : ∀ x ∈ p0, x.block < W.heap.size := by obtain ⟨m, hm⟩ := k0; exact DataW.trod_lt m _ _ _ hm
  obtain ⟨fuel0, hf0⟩ := h0
  obtain ⟨x0, hK0, ho0⟩ := (open24).2 _ _ _ hf0
  obtain ⟨A0_5, c0_5, hcs0, hlc0_5, hC0_5⟩ := k24_open hK0
  have hcs0' : cs0 = #[.bool (x0.f0), .bool (x0.f1), .int .i64 (x0.f2), .int .i64 (x0.f3), .int .i64 (x0.f4), .slice A0_5 (x0.f5).length c0_5] := by
    cases cs0
    simpa [Value.cells] using hcs0
  subst hcs0'
  obtain ⟨a1, rfl, rfl, rfl, w1⟩ := open_int Tryd.underlying3 (hval 1 3 v1 rfl rfl) h1
  clear hA0 hval0 hsz0 hsz
  obtain ⟨k, h⟩ := Pure.FnExactBatchCut x0 a1 ho0 w1
  letI : ErrA := ⟨fun n => b0⟩
  have hE : ErrOk [1] W := fun g hg => by
    have hg' : g = 1 := by simpa using hg
    rcases hg' with rfl
    · exact hg0
  refine (laws_FnExactBatchCut.calls k (x0.f0) (x0.f1) (x0.f2) (x0.f3) (x0.f4) _ _ (x0.f5) a1 true W hE hC0_5 hlc0_5 h).mono fun e W' ⟨he, bel0⟩ => ?_
  subst he
  have bel : Below W.heap.size W W' := bel0
  have hw0 : W'.var? Tryd.prog "loop.example/recordbatches/impl.errNoCut" = some #[.iface 103 (.pointer (some b0))] := var?_below bel g0 (World.block_lt_of_cell? W _ hg0) hv0
  exact ⟨_, rfl, _, _, _, [], _, _, hW', trodAll_mk1 (shut_bool Tryd.underlying4 _), (trodAll_cons_mk (Below.trod laidOut (by kernel_rfl) (of_decide_eq_true (by kernel_rfl)) k0 bel lt0) (trodAll_cons_mk (shut_int Tryd.underlying3 w1) trodAll_mk0)), vars_read1 enc g0 gT0 Tryd.underlying54 hw0 trivial _, bel.frame _, fun h => by cases h⟩
theorem over : Rows.fnExactBatchCutRow.holds Tryd.pinned (OpenSpec.ofChange Rows.fnExactBatchCutSpec) :=
  OpenClaim.holds_of_wide 4 Tryd.f4 rfl rfl rfl rfl rfl rfl rfl ⟨rfl, rfl, rfl, rfl, rfl⟩ rfl rfl rfl rfl rfl (by kernel_rfl) Tryd.func4 (by kernel_rfl)
    (of_decide_eq_true (by kernel_rfl)) (by unfold Func.isWrapper; first | (rw [if_pos (by decide +kernel)]; kernel_rfl) | (rw [if_neg (by decide +kernel)]; exact ⟨rfl, rfl⟩))
    (fun os started H enc _ => lifted os started H enc)
theorem proved : Rows.FnExactBatchCutSaid := over
#print axioms proved
end Go.Proofs.YtfjkpdhldeopaaaDoor.fnExactBatchCut
namespace Go.Proofs.YtfjkpdhldeopaaaDoor
/-- The row, under a short name, for the claim. -/
theorem fnExactBatchCut_holds : Rows.FnExactBatchCutSaid := fnExactBatchCut.proved
theorem fnExactBatchCut_card : Rows.FnExactBatchCutCardSaid :=
  Claim7.holds_tied_plain_at .later [] [.sentinel] true (true, "b61f1c08241aa9639d9ab7dbd627422c50556f76b0fa2dd21839bf8d79a0296e") true
    fnExactBatchCut_holds (fun _ h => by cases h) (by kernel_rfl) (fun _ h => by cases h) fnExactBatchCut_row_tie rfl ⟨rfl, rfl⟩ (by kernel_rfl) rfl
    (fun f fn hf hfn => by
      obtain rfl : f = 4 := Option.some.inj ((show Tryd.prog.funcNamed "loop.example/recordbatches/laws.FnExactBatchCut" = some 4 by kernel_rfl).symm.trans hf) |>.symm
      obtain rfl : fn = Tryd.f4 := (Option.some.inj (Tryd.func4.symm.trans hfn)).symm
      exact ⟨by kernel_rfl, fun j t ht => by
        rw [Tryd.params4] at ht
        have h3 : t = 24 ∨ t = 3 := by
          rcases j with _ | (_ | j)
          · have h_ := ht.symm; simp at h_; simp [h_]
          · have h_ := ht.symm; simp at h_; simp [h_]
          · simp at ht
        rcases h3 with rfl | rfl
        · exact (show Tryd.prog.wantsStandIn 24 = false by kernel_rfl)
        · exact (show Tryd.prog.wantsStandIn 3 = false by kernel_rfl)⟩)
    (by kernel_rfl)
#print axioms fnExactBatchCut_card
end Go.Proofs.YtfjkpdhldeopaaaDoor

