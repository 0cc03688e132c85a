/- A text of seat YtfjkpdhldeopaaaDoor: what the law FnExactLogCut needs of this repo's texts (by pack.py). Not trusted: Lean checks it. -/
import Derived.Test.YtfjkpdhldeopaaaDoorKFnExactLogCut9
import Derived.Deep.Slices
import Derived.SizedLaws
namespace Go.Proofs.YtfjkpdhldeopaaaDoor.G
open Go.RowKit Go.Proofs.YtfjkpdhldeopaaaDoorW.PrintWords Go.Proofs.YtfjkpdhldeopaaaDoorW.PrintLast Go.Proofs.YtfjkpdhldeopaaaDoorW.PrintMore
attribute [local go_sem] max2_int min2_int max_two min_two max_three min_three max_four min_four   -- for this text's walks alone
set_option linter.unusedVariables false
set_option linter.unusedSimpArgs false

def impl_BatchCut.f (k : Nat) (a0_0 : Bool) (a0_1 : Bool) (a0_2 : Int) (a0_3 : Int) (a0_4 : Int) (l0_5 : List (S62)) (a1 : Int) : Option (Bool × Bool × Int × Int × Int × (List (S62)) × Bool × Bool × Int × Int × Int × (List (S62)) × Bool) := (impl_Batch_cut.f k a0_0 a0_1 a0_2 a0_3 a0_4 l0_5 a1).bind fun bt376 => ((errors_Is.f bt376.2.2.2.2.2.2.2.2.2.2.2.2 (some 2)).bind fun t395 => (if t395 = true then (some (false, false, 0, 0, 0, ([] : List (S62)), false, false, 0, 0, 0, ([] : List (S62)), false)) else (some (bt376.1, bt376.2.1, bt376.2.2.1, bt376.2.2.2.1, bt376.2.2.2.2.1, bt376.2.2.2.2.2.1, bt376.2.2.2.2.2.2.1, bt376.2.2.2.2.2.2.2.1, bt376.2.2.2.2.2.2.2.2.1, bt376.2.2.2.2.2.2.2.2.2.1, bt376.2.2.2.2.2.2.2.2.2.2.1, bt376.2.2.2.2.2.2.2.2.2.2.2.1, true))))
end Go.Proofs.YtfjkpdhldeopaaaDoor.G

namespace Go.Proofs.YtfjkpdhldeopaaaDoor.G
open Go.RowKit Go.Proofs.YtfjkpdhldeopaaaDoorW.PrintWords Go.Proofs.YtfjkpdhldeopaaaDoorW.PrintLast Go.Proofs.YtfjkpdhldeopaaaDoorW.PrintMore
set_option linter.unusedVariables false
set_option linter.unusedSimpArgs false
set_option maxHeartbeats 4000000 in
set_option maxRecDepth 100000 in
theorem impl_Batch_cut.callsS [ErrA] (k : Nat) (a0 a1 : Bool) (a2 a3 a4 : Int) (A : Option Addr) (c : Nat) (l : List S62) (o : Int) (r1 r2 : Bool) (r3 r4 r5 : Int) (r6 : List S62) (r7 r8 : Bool) (r9 r10 r11 : Int) (r12 : List S62) (r13 : Option Int) (w : World)
    (hE : ErrOk [1] w) (hr : Kd.C k62 w A l.length l) (hc : l.length ≤ c) (h : impl_Batch_cut.f k a0 a1 a2 a3 a4 l o = some (r1, r2, r3, r4, r5, r6, r7, r8, r9, r10, r11, r12, r13)) :
    Calls Tryd.prog 34 #[BatV a0 a1 a2 a3 a4 (.slice A l.length c), .int .i64 o] w fun e w' => ∃ (v u : Value) (P : Nat → Prop), e = .returned (.tuple #[BatV r1 r2 r3 r4 r5 v, BatV r7 r8 r9 r10 r11 u, errW r13]) ∧ Kd.S k62 62 w' w.heap.size P v r6 ∧ Kd.S k62 62 w' w.heap.size (fun k => ¬ P k) u r12 ∧ Below w.heap.size w w' := by
  have HE := Aside0.mk hE
  have HR := Aside0.mk hr
  have HC := Aside0.mk hc
  have HS := Aside0.mk (St.nil w)
  have hu := Tryd.underlying28
  clear hE hr hc
  unfold impl_Batch_cut.f at h
  obtain ⟨vb, hvb, h⟩ := Option.bind_eq_some_iff.mp h
  have HV := Aside0.mk hvb
  have HH := Aside0.mk h
  clear h hvb
  go_enter Tryd.func34, Tryd.ntmps34
  go_upto_region 1 with (first | ((with_reducible refine gate_dst (N := 2) rfl ?_); refine w_box HS rfl rfl (by go_simp; try rfl) ?_; intro g2 W h_; clear HS; have HS := h_; clear h_) | ((with_reducible refine gate_dst (N := 4) rfl ?_); refine w_box HS rfl rfl (by go_simp; try rfl) ?_; intro g4 W h_; clear HS; have HS := h_; clear h_) | ((with_reducible refine gate_dst (N := 5) rfl ?_); refine w_box HS rfl rfl (by go_simp; try rfl) ?_; intro g5 W h_; clear HS; have HS := h_; clear h_))
  go_cut [18] (fun v18 wc => ∃ x : Bool, v18 = .bool x ∧ Aside0 (impl_Batch_cut.j0 k o x a0 a1 a2 a3 a4 l = some (r1, r2, r3, r4, r5, r6, r7, r8, r9, r10, r11, r12, r13)) ∧ Aside0 (St w wc [batE g5 false false 0 0 0 (.slice none 0 0), batE g4 false false 0 0 0 (.slice none 0 0), batE g2 a0 a1 a2 a3 a4 (.slice A l.length c)]))
  case first =>
    obtain ⟨f0, f1⟩ := HS.out.cells 2 rfl
    cases vb
    · have HJ := Aside0.mk (show impl_Batch_cut.j0 k o true a0 a1 a2 a3 a4 l = some (r1, r2, r3, r4, r5, r6, r7, r8, r9, r10, r11, r12, r13) by have := HH.out; simpa using this)
      clear HH
      go_wp2_with (first | (go_at_call 47; with_reducible refine (impl_BatchValid.calls k a0 a1 a2 a3 a4 _ _ l _ _ (Kd.C_below HR.out HS.out.below) HC.out HV.out).mono ?_; rintro e W ⟨rfl, hb⟩; replace HS := Aside0.mk (HS.out.call hb); clear hb f0 f1; obtain ⟨f0, f1⟩ := HS.out.cells 2 rfl))
      go_meet
      case rel => exact ⟨_, rfl, HJ, HS⟩
    · have HJ := Aside0.mk (show impl_Batch_cut.j0 k o (a2 != 255) a0 a1 a2 a3 a4 l = some (r1, r2, r3, r4, r5, r6, r7, r8, r9, r10, r11, r12, r13) by have := HH.out; simpa using this)
      clear HH
      go_wp2_with (first | (go_at_call 47; with_reducible refine (impl_BatchValid.calls k a0 a1 a2 a3 a4 _ _ l _ _ (Kd.C_below HR.out HS.out.below) HC.out HV.out).mono ?_; rintro e W ⟨rfl, hb⟩; replace HS := Aside0.mk (HS.out.call hb); clear hb f0 f1; obtain ⟨f0, f1⟩ := HS.out.cells 2 rfl))
      go_meet
      case rel => exact ⟨_, rfl, HJ, HS⟩
  case rest =>
    clear HH
    obtain ⟨x, rfl, HJ, HS⟩ := hcut
    obtain ⟨n, rfl⟩ : ∃ n, k = n + 1 := by
      cases k with
      | zero => exact absurd HJ.out (by simp [impl_Batch_cut.j0])
      | succ n => exact ⟨n, rfl⟩
    cases x
    rotate_left
    · have hj := HJ.out
      simp only [impl_Batch_cut.j0, if_true] at hj
      cases hj
      go_wp2
      have HG := Aside0.mk (ErrOk.below HE.out HS.out.below)
      refine q_begin (fun W => ErrOk [1] W ∧ St w W [batE g5 false false 0 0 0 (.slice none 0 0), batE g4 false false 0 0 0 (.slice none 0 0)]) [] 6 (by kernel_rfl) rfl ⟨ErrOk.below HE.out HS.out.drew.below, HS.out.drew.sub (by simp)⟩ (fun hS => ?_)
      generalize World.drew _ = W at hS ⊢
      repeat (first | (refine q_go (v := ?_) (by kernel_rfl) (by rfl) (fun _ _ _ h => h) hS ?_ ?_; rotate_left; (focus (intro w hS; have hg := ErrOk.g1 hS.1 (by decide); go_simp; first | done | with_reducible rfl)); simp only [Act.put, List.setIfInBounds_toArray, List.set_cons_zero, List.set_cons_succ, Nat.reduceAdd]))
      obtain ⟨f0, f1⟩ := hS.2.cells 1 rfl
      refine q_put (by kernel_rfl) (by simp) (by rfl) rfl (by go_simp; try rfl) ⟨ErrOk.below HE.out (hS.2.set6 1 rfl _ _ _ _ _ _).below, hS.2.set6 1 rfl _ _ _ _ _ _⟩ (fun hS => ?_)
      clear f0 f1
      obtain ⟨f0, f1⟩ := hS.2.cells 0 rfl
      refine q_put (by kernel_rfl) (by simp) (by rfl) rfl (by go_simp; try rfl) ⟨ErrOk.below HE.out (hS.2.set6 0 rfl _ _ _ _ _ _).below, hS.2.set6 0 rfl _ _ _ _ _ _⟩ (fun hS => ?_)
      clear f0 f1
      repeat (first | (refine q_go (v := ?_) (by kernel_rfl) (by rfl) (fun _ _ _ h => h) hS ?_ ?_; rotate_left; (focus (intro w hS; have hg := ErrOk.g1 hS.1 (by decide); go_simp; first | done | with_reducible rfl)); simp only [Act.put, List.setIfInBounds_toArray, List.set_cons_zero, List.set_cons_succ, Nat.reduceAdd]))
      refine q_done (by kernel_rfl) ?_
      go_wp2
      refine bodyPost_ret (results_list (rs := [.cell 4 28, .cell 5 28, .tmp 6]) rfl (by simp) (.cell g4 28 #[.bool false, .bool false, .int .i64 0, .int .i64 0, .int .i64 0, .slice none 0 0] (0, 0) _ rfl (hS.2.getB 1 rfl) Tryd.underlying28 rfl (by kernel_rfl) (.cell g5 28 #[.bool false, .bool false, .int .i64 0, .int .i64 0, .int .i64 0, .slice none 0 0] (0, 0) _ rfl (hS.2.getB 0 rfl) Tryd.underlying28 rfl (by kernel_rfl) (.tmp .nil)))) rfl ?_
      exact ⟨_, _, fun _ => True, by rfl, Kd.S_nil _ _ _ _ _, Kd.S_nil _ _ _ _ _, hS.2.below⟩
    · have hj := HJ.out
      simp only [impl_Batch_cut.j0, Bool.false_eq_true, if_false] at hj
      have HJ := Aside0.mk hj
      clear hj
      obtain ⟨f0, f1⟩ := HS.out.cells 2 rfl
      go_wp2_with (first | ((with_reducible refine gate_dst (N := 7) rfl ?_); refine w_box HS rfl rfl (by go_simp; try rfl) ?_; intro g7 W h_; clear HS; have HS := h_; clear h_; clear f0 f1; (try clear p0 p1); (try clear q0 q1); obtain ⟨f0, f1⟩ := HS.out.cells 3 rfl; obtain ⟨p0, p1⟩ := HS.out.cells 0 rfl) | ((with_reducible refine gate_store (t := 28) (p := 7) rfl ?_); refine w_put rfl rfl (by go_simp; try rfl) (HS.out.set6 0 rfl _ _ _ _ _ _) ?_; intro W h_; clear HS; have HS := h_; clear h_; clear f0 f1; (try clear p0 p1); (try clear q0 q1); obtain ⟨f0, f1⟩ := HS.out.cells 3 rfl; obtain ⟨p0, p1⟩ := HS.out.cells 0 rfl) | ((with_reducible refine gate_dst (N := 8) rfl ?_); refine w_box HS rfl rfl (by go_simp; try rfl) ?_; intro g8 W h_; clear HS; have HS := h_; clear h_; clear f0 f1; (try clear p0 p1); (try clear q0 q1); obtain ⟨f0, f1⟩ := HS.out.cells 4 rfl; obtain ⟨p0, p1⟩ := HS.out.cells 1 rfl; obtain ⟨q0, q1⟩ := HS.out.cells 0 rfl) | ((with_reducible refine gate_store (t := 28) (p := 8) rfl ?_); refine w_put rfl rfl (by go_simp; try rfl) (HS.out.set6 0 rfl _ _ _ _ _ _) ?_; intro W h_; clear HS; have HS := h_; clear h_; clear f0 f1; (try clear p0 p1); (try clear q0 q1); obtain ⟨f0, f1⟩ := HS.out.cells 4 rfl))
      replace HS := Aside0.mk ((HS.out.pushNil k62 62).pushNil k62 62)
      go_loopg [29] n (fun kq v29 wr => ∃ (x : Int) (xs ys : List S62) (V U : Option Addr) (q p : Nat) (P R : Nat → Prop), v29 = .int .i64 x ∧ Aside0 (impl_Batch_cut.l0 kq o l (l.length : Int) x a0 false 255 0 0 xs a0 false 255 0 0 ys = some (r1, r2, r3, r4, r5, r6, r7, r8, r9, r10, r11, r12, r13)) ∧ Aside0 (kq ≤ n) ∧ Aside0 (St w wr [rowS k62 62 w.heap.size (.slice V xs.length q) xs P, rowS k62 62 w.heap.size (.slice U ys.length p) ys R, batE g8 a0 false 255 0 0 (.slice U ys.length p), batE g7 a0 false 255 0 0 (.slice V xs.length q), batE g5 false false 0 0 0 (.slice none 0 0), batE g4 false false 0 0 0 (.slice none 0 0), batE g2 a0 a1 a2 a3 a4 (.slice A l.length c)]))
      case atStart => exact ⟨0, [], [], none, none, 0, 0, _, _, rfl, HJ, ⟨Nat.le_refl _⟩, HS⟩
      case round =>
        clear HJ f0 f1 HS
        obtain ⟨x, xs, ys, V, U, q, p, P, R, rfl, HA, HK, HS⟩ := hrel
        cases gk with
        | zero => exact absurd HA.out (by simp [impl_Batch_cut.l0])
        | succ k2 =>
          have H := HA.out
          clear HA
          simp only [impl_Batch_cut.l0] at H
          by_cases c1 : x < (l.length : Int)
          · rw [if_pos c1] at H
            by_cases c2 : 0 ≤ x
            case neg => rw [if_neg c2] at H; cases H
            rw [if_pos c2, if_pos c1] at H
            obtain ⟨ad, A3, c3, A5, c5, e_, x0, x1, x2, x3, x4, x5, hl3, hi3, hl5, hi5⟩ := at_T62 HR.out x c2 c1
            cases e_
            replace x0 := (HS.out.below.cell (World.block_lt_of_cell? w _ x0)).trans x0
            replace x1 := (HS.out.below.cell (World.block_lt_of_cell? w _ x1)).trans x1
            replace x2 := (HS.out.below.cell (World.block_lt_of_cell? w _ x2)).trans x2
            replace x3 := (HS.out.below.cell (World.block_lt_of_cell? w _ x3)).trans x3
            replace x4 := (HS.out.below.cell (World.block_lt_of_cell? w _ x4)).trans x4
            replace x5 := (HS.out.below.cell (World.block_lt_of_cell? w _ x5)).trans x5
            have HI := Aside0.mk (And.intro (And.intro hl3 hi3) (And.intro hl5 hi5))
            clear hl3 hi3 hl5 hi5
            by_cases c4 : (rd_T62 l x).f0 < o
            · rw [if_pos c4] at H
              obtain ⟨⟨t0, t1, t2, t3, t4, t5⟩, hcp, H⟩ := Option.bind_eq_some_iff.mp H
              by_cases c5 : xs.length < 1759218604441
              case neg => simp only [if_neg c5] at H; cases H
              simp only [if_pos c5] at H
              obtain ⟨zs, hzs⟩ : ∃ zs, zs = xs ++ [(⟨t0, t1, t2, t3, t4, t5⟩ : S62)] := ⟨_, rfl⟩
              rw [← hzs] at H
              have HZ := Aside0.mk hzs
              have HP := Aside0.mk (And.intro hcp c5)
              have HA := Aside0.mk H
              clear hzs hcp c5 H
              replace c1 := eq_true c1
              replace c2 := eq_true c2
              replace c4 := eq_true c4
              go_wp2_with (first | ((with_reducible refine gate_dst (N := 10) rfl ?_); refine w_box HS rfl rfl (by go_simp; try rfl) ?_; intro g10 W h_; clear HS; have HS := h_; clear h_; (try clear y0 y1); obtain ⟨y0, y1⟩ := HS.out.cells 0 rfl) | ((with_reducible refine gate_store (t := 62) (p := 10) rfl ?_); refine w_put rfl rfl (by go_simp; try rfl) (HS.out.set6 0 rfl _ _ _ _ _ _) ?_; intro W h_; clear HS y0 y1; have HS := h_; clear h_; obtain ⟨y0, y1⟩ := HS.out.cells 0 rfl))
              have HS2 := Aside0.mk HS.out.drew
              refine q_begin (fun W => St w W [boxE g10 #[.int .i64 (rd_T62 l x).f0, .int .i64 (rd_T62 l x).f1, .bool (rd_T62 l x).f2, .slice A3 (rd_T62 l x).f3.length c3, .bool (rd_T62 l x).f4, .slice A5 (rd_T62 l x).f5.length c5] 62, batE g8 a0 false 255 0 0 (.slice U ys.length p), batE g7 a0 false 255 0 0 (.slice V xs.length q), batE g5 false false 0 0 0 (.slice none 0 0), batE g4 false false 0 0 0 (.slice none 0 0), batE g2 a0 a1 a2 a3 a4 (.slice (some ad) l.length c)]) [7] 8 (by kernel_rfl) rfl ((HS2.out.del 1).del 1) (fun hS => ?_)
              clear x0 x1 x2 x3 x4 x5 y0 y1 HS
              generalize World.drew _ = W at hS HS2 ⊢
              repeat (first | (refine q_go (v := ?_) (by kernel_rfl) (by rfl) (fun _ _ _ h => h) hS ?_ ?_; rotate_left; (focus (intro w hS; obtain ⟨f0, f1⟩ := hS.cells 0 rfl; obtain ⟨p0, p1⟩ := hS.cells 2 rfl; go_simp; first | done | with_reducible rfl)); simp only [Act.put, List.setIfInBounds_toArray, List.set_cons_zero, List.set_cons_succ, Nat.reduceAdd]))
              refine q_call (by kernel_rfl) (by decide) (by rfl) Tryd.func54 (by kernel_rfl) rfl #[.agg #[.int .i64 (rd_T62 l x).f0, .int .i64 (rd_T62 l x).f1, .bool (rd_T62 l x).f2, .slice A3 (rd_T62 l x).f3.length c3, .bool (rd_T62 l x).f4, .slice A5 (rd_T62 l x).f5.length c5]] rfl tq ?_
              refine (impl_Record_copyOf.calls _ _ _ _ _ _ _ _ _ _ t0 t1 t2 t3 t4 t5 _ (Kd.C_below HI.out.1.2 hS.below) HI.out.1.1 (Kd.C_below HI.out.2.2 hS.below) HI.out.2.1 HP.out.1).mono ?_
              rintro e W2 ⟨v3, v5, rfl, h3, h5, hb⟩
              have hm : Kd.M k62 W2 W.heap.size (fun _ => True) (⟨t0, t1, t2, t3, t4, t5⟩ : S62) [.int .i64 t0, .int .i64 t1, .bool t2, v3, .bool t4, v5] := k62_mkM _ _ _ (⟨t0, t1, t2, t3, t4, t5⟩ : S62) (Kd.R_mono h3 (fun _ _ => trivial)) (Kd.R_mono h5 (fun _ _ => trivial)) (KV.ofR h3 (fun _ h => h))
              refine ⟨_, rfl, hS.call hb, fun hS => ?_⟩
              replace HS2 := Aside0.mk (((HS2.out.pushM hm hb).front 2 rfl).front 1 rfl)
              obtain ⟨A6, c6, rfl⟩ := Kd.R_slice h3
              obtain ⟨A7, c7, rfl⟩ := Kd.R_slice h5
              clear hm h3 h5 hb
              simp only [Act.put, List.setIfInBounds_toArray, List.set_cons_zero, List.set_cons_succ, Nat.reduceAdd]
              refine q_new (v := .slice (some ⟨W2.heap.size, 0, none⟩) 1 1) (w1 := W2.alloc (.cells (List.toArray [.int .i64 t0, .int .i64 t1, .bool t2, .slice A6 t3.length c6, .bool t4, .slice A7 t5.length c7]) 62)) (by kernel_rfl) (by decide) (by rfl) (by go_simp; try rfl) (hS.call (below_alloc (Below.refl _ _) _)) (fun hS => ?_)
              simp only [Act.put, List.setIfInBounds_toArray, List.set_cons_zero, List.set_cons_succ, Nat.reduceAdd]
              refine q_stp (by kernel_rfl) (by decide) (fun K hK => ?_)
              refine S_app1_step (d := k62) (e := 62) HS2.out rfl (.tmp 38) (.tmp 41) 26 (.agg #[.int .i64 0, .int .i64 0, .bool false, .slice none 0 0, .bool false, .slice none 0 0]) 80 rfl Tryd.underlying26 (by kernel_rfl) rfl (by decide) (by omega) rfl rfl (by have := HP.out.2; omega) ?_
              intro v1 W3 P1 HS3
              rw [← HZ.out] at HS3
              obtain ⟨V1, q1, rfl⟩ := Kd.S_slice (HS3.getS 0 rfl)
              refine hK.out _ _ (HS3.drop1.del 1) (fun hS => ?_)
              clear hK K HS2
              simp only [Act.put, List.setIfInBounds_toArray, List.set_cons_zero, List.set_cons_succ, Nat.reduceAdd]
              refine q_go (v := ?_) (by kernel_rfl) (by rfl) (fun _ _ _ h => h) hS ?_ ?_
              rotate_left
              focus (intro w hS; go_simp; first | done | with_reducible rfl)
              simp only [Act.put, List.setIfInBounds_toArray, List.set_cons_zero, List.set_cons_succ, Nat.reduceAdd]
              obtain ⟨f0, f1⟩ := hS.cells 2 rfl
              refine q_store (by kernel_rfl) (by decide) (by rfl) rfl (by go_simp; try rfl) ?_
              have HS := Aside0.mk (show St w _ [rowS k62 62 w.heap.size (.slice V1 zs.length q1) zs P1, rowS k62 62 w.heap.size (.slice U ys.length p) ys R, batE g8 a0 false 255 0 0 (.slice U ys.length p), batE g7 a0 false 255 0 0 (.slice V1 zs.length q1), batE g5 false false 0 0 0 (.slice none 0 0), batE g4 false false 0 0 0 (.slice none 0 0), batE g2 a0 a1 a2 a3 a4 (.slice (some ad) l.length c)] from ((HS3.del 1).set1 3 rfl 5 (.slice V1 zs.length q1)))
              generalize World.setCell _ _ _ = W4 at HS ⊢
              clear HS3 hS f0 f1
              refine q_done (by kernel_rfl) ?_
              try go_wp2
              go_roundg k2
              case measure => omega
              case rel => exact ⟨_, zs, ys, V1, U, q1, p, P1, R, rfl, HA, ⟨by have := HK.out; omega⟩, HS⟩
            · rw [if_neg c4] at H
              obtain ⟨⟨t0, t1, t2, t3, t4, t5⟩, hcp, H⟩ := Option.bind_eq_some_iff.mp H
              by_cases c5 : ys.length < 1759218604441
              case neg => simp only [if_neg c5] at H; cases H
              simp only [if_pos c5] at H
              obtain ⟨zs, hzs⟩ : ∃ zs, zs = ys ++ [(⟨t0, t1, t2, t3, t4, t5⟩ : S62)] := ⟨_, rfl⟩
              rw [← hzs] at H
              have HZ := Aside0.mk hzs
              have HP := Aside0.mk (And.intro hcp c5)
              have HA := Aside0.mk H
              clear hzs hcp c5 H
              replace c1 := eq_true c1
              replace c2 := eq_true c2
              replace c4 := eq_false c4
              go_wp2_with (first | ((with_reducible refine gate_dst (N := 10) rfl ?_); refine w_box HS rfl rfl (by go_simp; try rfl) ?_; intro g10 W h_; clear HS; have HS := h_; clear h_; (try clear y0 y1); obtain ⟨y0, y1⟩ := HS.out.cells 0 rfl) | ((with_reducible refine gate_store (t := 62) (p := 10) rfl ?_); refine w_put rfl rfl (by go_simp; try rfl) (HS.out.set6 0 rfl _ _ _ _ _ _) ?_; intro W h_; clear HS y0 y1; have HS := h_; clear h_; obtain ⟨y0, y1⟩ := HS.out.cells 0 rfl))
              have HS2 := Aside0.mk HS.out.drew
              refine q_begin (fun W => St w W [boxE g10 #[.int .i64 (rd_T62 l x).f0, .int .i64 (rd_T62 l x).f1, .bool (rd_T62 l x).f2, .slice A3 (rd_T62 l x).f3.length c3, .bool (rd_T62 l x).f4, .slice A5 (rd_T62 l x).f5.length c5] 62, batE g8 a0 false 255 0 0 (.slice U ys.length p), batE g7 a0 false 255 0 0 (.slice V xs.length q), batE g5 false false 0 0 0 (.slice none 0 0), batE g4 false false 0 0 0 (.slice none 0 0), batE g2 a0 a1 a2 a3 a4 (.slice (some ad) l.length c)]) [7] 8 (by kernel_rfl) rfl ((HS2.out.del 1).del 1) (fun hS => ?_)
              clear x0 x1 x2 x3 x4 x5 y0 y1 HS
              generalize World.drew _ = W at hS HS2 ⊢
              repeat (first | (refine q_go (v := ?_) (by kernel_rfl) (by rfl) (fun _ _ _ h => h) hS ?_ ?_; rotate_left; (focus (intro w hS; obtain ⟨f0, f1⟩ := hS.cells 0 rfl; obtain ⟨p0, p1⟩ := hS.cells 1 rfl; go_simp; first | done | with_reducible rfl)); simp only [Act.put, List.setIfInBounds_toArray, List.set_cons_zero, List.set_cons_succ, Nat.reduceAdd]))
              refine q_call (by kernel_rfl) (by decide) (by rfl) Tryd.func54 (by kernel_rfl) rfl #[.agg #[.int .i64 (rd_T62 l x).f0, .int .i64 (rd_T62 l x).f1, .bool (rd_T62 l x).f2, .slice A3 (rd_T62 l x).f3.length c3, .bool (rd_T62 l x).f4, .slice A5 (rd_T62 l x).f5.length c5]] rfl tq ?_
              refine (impl_Record_copyOf.calls _ _ _ _ _ _ _ _ _ _ t0 t1 t2 t3 t4 t5 _ (Kd.C_below HI.out.1.2 hS.below) HI.out.1.1 (Kd.C_below HI.out.2.2 hS.below) HI.out.2.1 HP.out.1).mono ?_
              rintro e W2 ⟨v3, v5, rfl, h3, h5, hb⟩
              have hm : Kd.M k62 W2 W.heap.size (fun _ => True) (⟨t0, t1, t2, t3, t4, t5⟩ : S62) [.int .i64 t0, .int .i64 t1, .bool t2, v3, .bool t4, v5] := k62_mkM _ _ _ (⟨t0, t1, t2, t3, t4, t5⟩ : S62) (Kd.R_mono h3 (fun _ _ => trivial)) (Kd.R_mono h5 (fun _ _ => trivial)) (KV.ofR h3 (fun _ h => h))
              refine ⟨_, rfl, hS.call hb, fun hS => ?_⟩
              replace HS2 := Aside0.mk (((HS2.out.pushM hm hb).front 3 rfl).front 1 rfl)
              obtain ⟨A6, c6, rfl⟩ := Kd.R_slice h3
              obtain ⟨A7, c7, rfl⟩ := Kd.R_slice h5
              clear hm h3 h5 hb
              simp only [Act.put, List.setIfInBounds_toArray, List.set_cons_zero, List.set_cons_succ, Nat.reduceAdd]
              refine q_new (v := .slice (some ⟨W2.heap.size, 0, none⟩) 1 1) (w1 := W2.alloc (.cells (List.toArray [.int .i64 t0, .int .i64 t1, .bool t2, .slice A6 t3.length c6, .bool t4, .slice A7 t5.length c7]) 62)) (by kernel_rfl) (by decide) (by rfl) (by go_simp; try rfl) (hS.call (below_alloc (Below.refl _ _) _)) (fun hS => ?_)
              simp only [Act.put, List.setIfInBounds_toArray, List.set_cons_zero, List.set_cons_succ, Nat.reduceAdd]
              refine q_stp (by kernel_rfl) (by decide) (fun K hK => ?_)
              refine S_app1_step (d := k62) (e := 62) HS2.out rfl (.tmp 45) (.tmp 48) 26 (.agg #[.int .i64 0, .int .i64 0, .bool false, .slice none 0 0, .bool false, .slice none 0 0]) 80 rfl Tryd.underlying26 (by kernel_rfl) rfl (by decide) (by omega) rfl rfl (by have := HP.out.2; omega) ?_
              intro v1 W3 P1 HS3
              rw [← HZ.out] at HS3
              obtain ⟨V1, q1, rfl⟩ := Kd.S_slice (HS3.getS 0 rfl)
              refine hK.out _ _ (HS3.drop1.del 1) (fun hS => ?_)
              clear hK K HS2
              simp only [Act.put, List.setIfInBounds_toArray, List.set_cons_zero, List.set_cons_succ, Nat.reduceAdd]
              refine q_go (v := ?_) (by kernel_rfl) (by rfl) (fun _ _ _ h => h) hS ?_ ?_
              rotate_left
              focus (intro w hS; go_simp; first | done | with_reducible rfl)
              simp only [Act.put, List.setIfInBounds_toArray, List.set_cons_zero, List.set_cons_succ, Nat.reduceAdd]
              obtain ⟨f0, f1⟩ := hS.cells 1 rfl
              refine q_store (by kernel_rfl) (by decide) (by rfl) rfl (by go_simp; try rfl) ?_
              have HS := Aside0.mk (show St w _ [rowS k62 62 w.heap.size (.slice V xs.length q) xs P, rowS k62 62 w.heap.size (.slice V1 zs.length q1) zs P1, batE g8 a0 false 255 0 0 (.slice V1 zs.length q1), batE g7 a0 false 255 0 0 (.slice V xs.length q), batE g5 false false 0 0 0 (.slice none 0 0), batE g4 false false 0 0 0 (.slice none 0 0), batE g2 a0 a1 a2 a3 a4 (.slice (some ad) l.length c)] from (((HS3.del 1).set1 2 rfl 5 (.slice V1 zs.length q1)).front 1 rfl))
              generalize World.setCell _ _ _ = W4 at HS ⊢
              clear HS3 hS f0 f1
              refine q_done (by kernel_rfl) ?_
              try go_wp2
              go_roundg k2
              case measure => omega
              case rel => exact ⟨_, xs, zs, V, V1, q, q1, P, P1, rfl, HA, ⟨by have := HK.out; omega⟩, HS⟩
          · rw [if_neg c1] at H
            obtain ⟨f0, f1⟩ := HS.out.cells 3 rfl
            obtain ⟨p0, p1⟩ := HS.out.cells 2 rfl
            have c0 : decide (x < (l.length : Int)) = false := decide_eq_false c1
            by_cases e1 : (xs.length : Int) = 0
            · rw [if_pos e1] at H
              have de10 : decide ((xs.length : Int) = 0) = true := decide_eq_true e1; have de11 : ((xs.length : Int) != 0) = false := bne_eq_false_iff_eq.mpr e1; have de12 : ((xs.length : Int) == 0) = true := beq_iff_eq.mpr e1
              cases H
              go_wp2
              have HG := Aside0.mk (ErrOk.below HE.out HS.out.below)
              refine q_begin (fun W => ErrOk [1] W ∧ St w W [batE g5 false false 0 0 0 (.slice none 0 0), batE g4 false false 0 0 0 (.slice none 0 0)]) [] 6 (by kernel_rfl) rfl ⟨ErrOk.below HE.out HS.out.drew.below, ((((HS.out.drew.del 0).del 0).del 0).del 0).sub (by simp)⟩ (fun hS => ?_)
              generalize World.drew _ = W at hS ⊢
              repeat (first | (refine q_go (v := ?_) (by kernel_rfl) (by rfl) (fun _ _ _ h => h) hS ?_ ?_; rotate_left; (focus (intro w hS; have hg := ErrOk.g1 hS.1 (by decide); go_simp; first | done | with_reducible rfl)); simp only [Act.put, List.setIfInBounds_toArray, List.set_cons_zero, List.set_cons_succ, Nat.reduceAdd]))
              obtain ⟨f0, f1⟩ := hS.2.cells 1 rfl
              refine q_put (by kernel_rfl) (by simp) (by rfl) rfl (by go_simp; try rfl) ⟨ErrOk.below HE.out (hS.2.set6 1 rfl _ _ _ _ _ _).below, hS.2.set6 1 rfl _ _ _ _ _ _⟩ (fun hS => ?_)
              clear f0 f1
              obtain ⟨f0, f1⟩ := hS.2.cells 0 rfl
              refine q_put (by kernel_rfl) (by simp) (by rfl) rfl (by go_simp; try rfl) ⟨ErrOk.below HE.out (hS.2.set6 0 rfl _ _ _ _ _ _).below, hS.2.set6 0 rfl _ _ _ _ _ _⟩ (fun hS => ?_)
              clear f0 f1
              repeat (first | (refine q_go (v := ?_) (by kernel_rfl) (by rfl) (fun _ _ _ h => h) hS ?_ ?_; rotate_left; (focus (intro w hS; have hg := ErrOk.g1 hS.1 (by decide); go_simp; first | done | with_reducible rfl)); simp only [Act.put, List.setIfInBounds_toArray, List.set_cons_zero, List.set_cons_succ, Nat.reduceAdd]))
              refine q_done (by kernel_rfl) ?_
              go_wp2
              refine bodyPost_ret (results_list (rs := [.cell 4 28, .cell 5 28, .tmp 6]) rfl (by simp) (.cell g4 28 #[.bool false, .bool false, .int .i64 0, .int .i64 0, .int .i64 0, .slice none 0 0] (0, 0) _ rfl (hS.2.getB 1 rfl) Tryd.underlying28 rfl (by kernel_rfl) (.cell g5 28 #[.bool false, .bool false, .int .i64 0, .int .i64 0, .int .i64 0, .slice none 0 0] (0, 0) _ rfl (hS.2.getB 0 rfl) Tryd.underlying28 rfl (by kernel_rfl) (.tmp .nil)))) rfl ?_
              exact ⟨_, _, fun _ => True, by rfl, Kd.S_nil _ _ _ _ _, Kd.S_nil _ _ _ _ _, hS.2.below⟩
            · rw [if_neg e1] at H
              have de10 : decide ((xs.length : Int) = 0) = false := decide_eq_false e1; have de11 : ((xs.length : Int) != 0) = true := bne_iff_ne.mpr e1; have de12 : ((xs.length : Int) == 0) = false := beq_eq_false_iff_ne.mpr e1
              by_cases e2 : (ys.length : Int) = 0
              · rw [if_pos e2] at H
                have de20 : decide ((ys.length : Int) = 0) = true := decide_eq_true e2; have de21 : ((ys.length : Int) != 0) = false := bne_eq_false_iff_eq.mpr e2; have de22 : ((ys.length : Int) == 0) = true := beq_iff_eq.mpr e2
                cases H
                go_wp2
                have HG := Aside0.mk (ErrOk.below HE.out HS.out.below)
                refine q_begin (fun W => ErrOk [1] W ∧ St w W [batE g5 false false 0 0 0 (.slice none 0 0), batE g4 false false 0 0 0 (.slice none 0 0)]) [] 6 (by kernel_rfl) rfl ⟨ErrOk.below HE.out HS.out.drew.below, ((((HS.out.drew.del 0).del 0).del 0).del 0).sub (by simp)⟩ (fun hS => ?_)
                generalize World.drew _ = W at hS ⊢
                repeat (first | (refine q_go (v := ?_) (by kernel_rfl) (by rfl) (fun _ _ _ h => h) hS ?_ ?_; rotate_left; (focus (intro w hS; have hg := ErrOk.g1 hS.1 (by decide); go_simp; first | done | with_reducible rfl)); simp only [Act.put, List.setIfInBounds_toArray, List.set_cons_zero, List.set_cons_succ, Nat.reduceAdd]))
                obtain ⟨f0, f1⟩ := hS.2.cells 1 rfl
                refine q_put (by kernel_rfl) (by simp) (by rfl) rfl (by go_simp; try rfl) ⟨ErrOk.below HE.out (hS.2.set6 1 rfl _ _ _ _ _ _).below, hS.2.set6 1 rfl _ _ _ _ _ _⟩ (fun hS => ?_)
                clear f0 f1
                obtain ⟨f0, f1⟩ := hS.2.cells 0 rfl
                refine q_put (by kernel_rfl) (by simp) (by rfl) rfl (by go_simp; try rfl) ⟨ErrOk.below HE.out (hS.2.set6 0 rfl _ _ _ _ _ _).below, hS.2.set6 0 rfl _ _ _ _ _ _⟩ (fun hS => ?_)
                clear f0 f1
                repeat (first | (refine q_go (v := ?_) (by kernel_rfl) (by rfl) (fun _ _ _ h => h) hS ?_ ?_; rotate_left; (focus (intro w hS; have hg := ErrOk.g1 hS.1 (by decide); go_simp; first | done | with_reducible rfl)); simp only [Act.put, List.setIfInBounds_toArray, List.set_cons_zero, List.set_cons_succ, Nat.reduceAdd]))
                refine q_done (by kernel_rfl) ?_
                go_wp2
                refine bodyPost_ret (results_list (rs := [.cell 4 28, .cell 5 28, .tmp 6]) rfl (by simp) (.cell g4 28 #[.bool false, .bool false, .int .i64 0, .int .i64 0, .int .i64 0, .slice none 0 0] (0, 0) _ rfl (hS.2.getB 1 rfl) Tryd.underlying28 rfl (by kernel_rfl) (.cell g5 28 #[.bool false, .bool false, .int .i64 0, .int .i64 0, .int .i64 0, .slice none 0 0] (0, 0) _ rfl (hS.2.getB 0 rfl) Tryd.underlying28 rfl (by kernel_rfl) (.tmp .nil)))) rfl ?_
                exact ⟨_, _, fun _ => True, by rfl, Kd.S_nil _ _ _ _ _, Kd.S_nil _ _ _ _ _, hS.2.below⟩
              · rw [if_neg e2] at H
                have de20 : decide ((ys.length : Int) = 0) = false := decide_eq_false e2; have de21 : ((ys.length : Int) != 0) = true := bne_iff_ne.mpr e2; have de22 : ((ys.length : Int) == 0) = false := beq_eq_false_iff_ne.mpr e2
                cases H
                go_wp2
                have HS2 := Aside0.mk HS.out.drew
                refine q_begin (fun W => St w W [rowS k62 62 w.heap.size (.slice V r6.length q) r6 P, rowS k62 62 w.heap.size (.slice U r12.length p) r12 R, batE g8 a0 false 255 0 0 (.slice U r12.length p), batE g7 a0 false 255 0 0 (.slice V r6.length q)]) [] 5 (by kernel_rfl) rfl (((HS2.out.del 6).del 5).del 4) (fun hS => ?_)
                generalize World.drew _ = W at hS HS2 ⊢
                clear f0 f1 p0 p1
                repeat (first | (refine q_go (v := ?_) (by kernel_rfl) (by rfl) (fun _ _ _ h => h) hS ?_ ?_; rotate_left; (focus (intro w hS; obtain ⟨f0, f1⟩ := hS.cells 3 rfl; obtain ⟨p0, p1⟩ := hS.cells 2 rfl; go_simp; first | done | with_reducible rfl)); simp only [Act.put, List.setIfInBounds_toArray, List.set_cons_zero, List.set_cons_succ, Nat.reduceAdd]))
                obtain ⟨f0, f1⟩ := HS2.out.cells 5 rfl
                replace HS2 := Aside0.mk (HS2.out.set6 5 rfl (.bool a0) (.bool false) (.int .i64 255) (.int .i64 0) (.int .i64 0) (.slice V r6.length q))
                refine q_put (by kernel_rfl) (by simp) (by rfl) rfl (by go_simp; try rfl) (((HS2.out.del 6).del 5).del 4) (fun hS => ?_)
                clear f0 f1
                obtain ⟨f0, f1⟩ := HS2.out.cells 4 rfl
                replace HS2 := Aside0.mk (HS2.out.set6 4 rfl (.bool a0) (.bool false) (.int .i64 255) (.int .i64 0) (.int .i64 0) (.slice U r12.length p))
                refine q_put (by kernel_rfl) (by simp) (by rfl) rfl (by go_simp; try rfl) (((HS2.out.del 6).del 5).del 4) (fun hS => ?_)
                clear f0 f1
                repeat (first | (refine q_go (v := ?_) (by kernel_rfl) (by rfl) (fun _ _ _ h => h) hS ?_ ?_; rotate_left; (focus (intro w hS; obtain ⟨f0, f1⟩ := hS.cells 3 rfl; obtain ⟨p0, p1⟩ := hS.cells 2 rfl; go_simp; first | done | with_reducible rfl)); simp only [Act.put, List.setIfInBounds_toArray, List.set_cons_zero, List.set_cons_succ, Nat.reduceAdd]))
                refine q_done (by kernel_rfl) ?_
                go_wp2
                refine bodyPost_ret (results_list (rs := [.cell 4 28, .cell 5 28, .tmp 6]) rfl (by simp) (.cell g4 28 #[.bool a0, .bool false, .int .i64 255, .int .i64 0, .int .i64 0, .slice V r6.length q] (0, 0) _ rfl (HS2.out.getB 5 rfl) Tryd.underlying28 rfl (by kernel_rfl) (.cell g5 28 #[.bool a0, .bool false, .int .i64 255, .int .i64 0, .int .i64 0, .slice U r12.length p] (0, 0) _ rfl (HS2.out.getB 4 rfl) Tryd.underlying28 rfl (by kernel_rfl) (.tmp .nil)))) rfl ?_
                exact ⟨_, _, P, by rfl, HS2.out.getS 0 rfl, Kd.S_mono (HS2.out.getS 1 rfl) (fun k h1 h2 => HS2.out.apart 0 1 rfl rfl (by omega) k h2 h1), HS2.out.below⟩
set_option maxHeartbeats 4000000 in
set_option maxRecDepth 100000 in
theorem impl_BatchCut.callsS [ErrA] (k : Nat) (a0 a1 : Bool) (a2 a3 a4 : Int) (A : Option Addr) (c : Nat) (l : List S62) (o : Int) (r1 r2 : Bool) (r3 r4 r5 : Int) (r6 : List S62) (r7 r8 : Bool) (r9 r10 r11 : Int) (r12 : List S62) (r13 : Bool) (w : World)
    (hE : ErrOk [1] w) (hr : Kd.C k62 w A l.length l) (hc : l.length ≤ c) (h : impl_BatchCut.f k a0 a1 a2 a3 a4 l o = some (r1, r2, r3, r4, r5, r6, r7, r8, r9, r10, r11, r12, r13)) :
    Calls Tryd.prog 15 #[BatV a0 a1 a2 a3 a4 (.slice A l.length c), .int .i64 o] w fun e w' => ∃ (v u : Value) (P : Nat → Prop), e = .returned (.tuple #[BatV r1 r2 r3 r4 r5 v, BatV r7 r8 r9 r10 r11 u, .bool r13]) ∧ Kd.S k62 62 w' w.heap.size P v r6 ∧ Kd.S k62 62 w' w.heap.size (fun k => ¬ P k) u r12 ∧ Below w.heap.size w w' := by
  have HE := Aside0.mk hE
  have HR := Aside0.mk hr
  have HC := Aside0.mk hc
  have HS := Aside0.mk (St.nil w)
  have hu := Tryd.underlying28
  clear hE hr hc
  unfold impl_BatchCut.f at h
  obtain ⟨⟨t0, t1, t2, t3, t4, t5, u0, u1, u2, u3, u4, u5, er⟩, hj, h⟩ := Option.bind_eq_some_iff.mp h
  obtain ⟨x, hx, h⟩ := Option.bind_eq_some_iff.mp h
  have HJ := Aside0.mk (And.intro hj hx)
  have HK := Aside0.mk h
  clear hj hx h
  go_enter Tryd.func15, Tryd.ntmps15
  cases x
  rotate_left
  · go_wp2_with (first | ((with_reducible refine gate_dst (N := 2) rfl ?_); refine w_box HS rfl rfl (by go_simp; try rfl) ?_; intro g2 W h_; clear HS; have HS := h_; clear h_) | ((with_reducible refine gate_dst (N := 4) rfl ?_); refine w_box HS rfl rfl (by go_simp; try rfl) ?_; intro g4 W h_; clear HS; have HS := h_; clear h_) | ((with_reducible refine gate_dst (N := 5) rfl ?_); refine w_box HS rfl rfl (by go_simp; try rfl) ?_; intro g5 W h_; clear HS; have HS := h_; clear h_; obtain ⟨f0, f1⟩ := HS.out.cells 2 rfl) | (go_at_call 34; with_reducible refine (impl_Batch_cut.callsS k a0 a1 a2 a3 a4 _ _ l o t0 t1 t2 t3 t4 t5 u0 u1 u2 u3 u4 u5 er _ (ErrOk.below HE.out HS.out.below) (Kd.C_below HR.out HS.out.below) HC.out HJ.out.1).mono ?_; rintro e W ⟨v, u, P, rfl, hs, hs2, hb⟩; obtain ⟨V, q, rfl⟩ := Kd.S_slice hs; obtain ⟨U, p, rfl⟩ := Kd.S_slice hs2; replace HS := Aside0.mk (HS.out.push2 hs hs2 hb); clear hs hs2 hb f0 f1) | ((with_reducible refine gate_dst (N := 7) rfl ?_); refine w_box HS rfl rfl (by go_simp; try rfl) ?_; intro g7 W h_; clear HS; have HS := h_; clear h_) | ((with_reducible refine gate_dst (N := 8) rfl ?_); refine w_box HS rfl rfl (by go_simp; try rfl) ?_; intro g8 W h_; clear HS; have HS := h_; clear h_; (try clear f0 f1); (try clear p0 p1); (try clear q0 q1); (try clear y0 y1); obtain ⟨f0, f1⟩ := HS.out.cells 5 rfl; obtain ⟨q0, q1⟩ := HS.out.cells 4 rfl; obtain ⟨p0, p1⟩ := HS.out.cells 1 rfl; obtain ⟨y0, y1⟩ := HS.out.cells 0 rfl) | ((with_reducible refine gate_store (t := 28) (p := 7) rfl ?_); refine w_put rfl rfl (by go_simp; try rfl) (HS.out.set6 1 rfl _ _ _ _ _ _) ?_; intro W h_; clear HS; have HS := h_; clear h_; (try simp only [List.set_cons_zero, List.set_cons_succ] at HS); (try clear f0 f1); (try clear p0 p1); (try clear q0 q1); (try clear y0 y1); obtain ⟨f0, f1⟩ := HS.out.cells 5 rfl; obtain ⟨q0, q1⟩ := HS.out.cells 4 rfl; obtain ⟨p0, p1⟩ := HS.out.cells 1 rfl; obtain ⟨y0, y1⟩ := HS.out.cells 0 rfl) | ((with_reducible refine gate_store (t := 28) (p := 8) rfl ?_); refine w_put rfl rfl (by go_simp; try rfl) (HS.out.set6 0 rfl _ _ _ _ _ _) ?_; intro W h_; clear HS; have HS := h_; clear h_; (try simp only [List.set_cons_zero, List.set_cons_succ] at HS); (try clear f0 f1); (try clear p0 p1); (try clear q0 q1); (try clear y0 y1); obtain ⟨f0, f1⟩ := HS.out.cells 5 rfl; obtain ⟨q0, q1⟩ := HS.out.cells 4 rfl; obtain ⟨p0, p1⟩ := HS.out.cells 1 rfl; obtain ⟨y0, y1⟩ := HS.out.cells 0 rfl) | ((with_reducible refine gate_dst (N := 18) rfl ?_); refine glob_ rfl (v := errW (some 2)) (g := 1) ?hr ?hc ?_; (case hc => exact ErrOk.g1 (ErrOk.below HE.out HS.out.below) (by decide)); (case hr => intro W_ hc_; go_simp)) | (go_at_call 30; with_reducible refine (errors_Is.calls er (some 2) _ _ HJ.out.2).mono ?_; rintro e W ⟨rfl, hb⟩; replace HS := Aside0.mk (HS.out.call hb); clear hb; (try clear f0 f1); (try clear p0 p1); (try clear q0 q1); (try clear y0 y1); obtain ⟨f0, f1⟩ := HS.out.cells 5 rfl; obtain ⟨q0, q1⟩ := HS.out.cells 4 rfl; obtain ⟨p0, p1⟩ := HS.out.cells 1 rfl; obtain ⟨y0, y1⟩ := HS.out.cells 0 rfl) | ((with_reducible refine gate_store (t := 28) (p := 4) rfl ?_); refine w_put rfl rfl (by go_simp; try rfl) (HS.out.set6 5 rfl _ _ _ _ _ _) ?_; intro W h_; clear HS; have HS := h_; clear h_; (try simp only [List.set_cons_zero, List.set_cons_succ] at HS); (try clear f0 f1); (try clear p0 p1); (try clear q0 q1); (try clear y0 y1); obtain ⟨f0, f1⟩ := HS.out.cells 5 rfl; obtain ⟨q0, q1⟩ := HS.out.cells 4 rfl; obtain ⟨p0, p1⟩ := HS.out.cells 1 rfl; obtain ⟨y0, y1⟩ := HS.out.cells 0 rfl) | ((with_reducible refine gate_store (t := 28) (p := 5) rfl ?_); refine w_put rfl rfl (by go_simp; try rfl) (HS.out.set6 4 rfl _ _ _ _ _ _) ?_; intro W h_; clear HS; have HS := h_; clear h_; (try simp only [List.set_cons_zero, List.set_cons_succ] at HS); (try clear f0 f1); (try clear p0 p1); (try clear q0 q1); (try clear y0 y1); obtain ⟨f0, f1⟩ := HS.out.cells 5 rfl; obtain ⟨q0, q1⟩ := HS.out.cells 4 rfl; obtain ⟨p0, p1⟩ := HS.out.cells 1 rfl; obtain ⟨y0, y1⟩ := HS.out.cells 0 rfl))
    cases HK.out
    refine bodyPost_ret (results_list (rs := [.cell 4 28, .cell 5 28, .tmp 6]) rfl (by simp) (.cell g4 28 #[.bool false, .bool false, .int .i64 0, .int .i64 0, .int .i64 0, .slice none 0 0] (0, 0) _ rfl (HS.out.getB 5 rfl) Tryd.underlying28 rfl (by kernel_rfl) (.cell g5 28 #[.bool false, .bool false, .int .i64 0, .int .i64 0, .int .i64 0, .slice none 0 0] (0, 0) _ rfl (HS.out.getB 4 rfl) Tryd.underlying28 rfl (by kernel_rfl) (.tmp .nil)))) rfl ?_
    exact ⟨_, _, fun _ => True, by rfl, Kd.S_nil _ _ _ _ _, Kd.S_nil _ _ _ _ _, HS.out.below⟩
  · go_wp2_with (first | ((with_reducible refine gate_dst (N := 2) rfl ?_); refine w_box HS rfl rfl (by go_simp; try rfl) ?_; intro g2 W h_; clear HS; have HS := h_; clear h_) | ((with_reducible refine gate_dst (N := 4) rfl ?_); refine w_box HS rfl rfl (by go_simp; try rfl) ?_; intro g4 W h_; clear HS; have HS := h_; clear h_) | ((with_reducible refine gate_dst (N := 5) rfl ?_); refine w_box HS rfl rfl (by go_simp; try rfl) ?_; intro g5 W h_; clear HS; have HS := h_; clear h_; obtain ⟨f0, f1⟩ := HS.out.cells 2 rfl) | (go_at_call 34; with_reducible refine (impl_Batch_cut.callsS k a0 a1 a2 a3 a4 _ _ l o t0 t1 t2 t3 t4 t5 u0 u1 u2 u3 u4 u5 er _ (ErrOk.below HE.out HS.out.below) (Kd.C_below HR.out HS.out.below) HC.out HJ.out.1).mono ?_; rintro e W ⟨v, u, P, rfl, hs, hs2, hb⟩; obtain ⟨V, q, rfl⟩ := Kd.S_slice hs; obtain ⟨U, p, rfl⟩ := Kd.S_slice hs2; replace HS := Aside0.mk (HS.out.push2 hs hs2 hb); clear hs hs2 hb f0 f1) | ((with_reducible refine gate_dst (N := 7) rfl ?_); refine w_box HS rfl rfl (by go_simp; try rfl) ?_; intro g7 W h_; clear HS; have HS := h_; clear h_) | ((with_reducible refine gate_dst (N := 8) rfl ?_); refine w_box HS rfl rfl (by go_simp; try rfl) ?_; intro g8 W h_; clear HS; have HS := h_; clear h_; (try clear f0 f1); (try clear p0 p1); (try clear q0 q1); (try clear y0 y1); obtain ⟨f0, f1⟩ := HS.out.cells 5 rfl; obtain ⟨q0, q1⟩ := HS.out.cells 4 rfl; obtain ⟨p0, p1⟩ := HS.out.cells 1 rfl; obtain ⟨y0, y1⟩ := HS.out.cells 0 rfl) | ((with_reducible refine gate_store (t := 28) (p := 7) rfl ?_); refine w_put rfl rfl (by go_simp; try rfl) (HS.out.set6 1 rfl _ _ _ _ _ _) ?_; intro W h_; clear HS; have HS := h_; clear h_; (try simp only [List.set_cons_zero, List.set_cons_succ] at HS); (try clear f0 f1); (try clear p0 p1); (try clear q0 q1); (try clear y0 y1); obtain ⟨f0, f1⟩ := HS.out.cells 5 rfl; obtain ⟨q0, q1⟩ := HS.out.cells 4 rfl; obtain ⟨p0, p1⟩ := HS.out.cells 1 rfl; obtain ⟨y0, y1⟩ := HS.out.cells 0 rfl) | ((with_reducible refine gate_store (t := 28) (p := 8) rfl ?_); refine w_put rfl rfl (by go_simp; try rfl) (HS.out.set6 0 rfl _ _ _ _ _ _) ?_; intro W h_; clear HS; have HS := h_; clear h_; (try simp only [List.set_cons_zero, List.set_cons_succ] at HS); (try clear f0 f1); (try clear p0 p1); (try clear q0 q1); (try clear y0 y1); obtain ⟨f0, f1⟩ := HS.out.cells 5 rfl; obtain ⟨q0, q1⟩ := HS.out.cells 4 rfl; obtain ⟨p0, p1⟩ := HS.out.cells 1 rfl; obtain ⟨y0, y1⟩ := HS.out.cells 0 rfl) | ((with_reducible refine gate_dst (N := 18) rfl ?_); refine glob_ rfl (v := errW (some 2)) (g := 1) ?hr ?hc ?_; (case hc => exact ErrOk.g1 (ErrOk.below HE.out HS.out.below) (by decide)); (case hr => intro W_ hc_; go_simp)) | (go_at_call 30; with_reducible refine (errors_Is.calls er (some 2) _ _ HJ.out.2).mono ?_; rintro e W ⟨rfl, hb⟩; replace HS := Aside0.mk (HS.out.call hb); clear hb; (try clear f0 f1); (try clear p0 p1); (try clear q0 q1); (try clear y0 y1); obtain ⟨f0, f1⟩ := HS.out.cells 5 rfl; obtain ⟨q0, q1⟩ := HS.out.cells 4 rfl; obtain ⟨p0, p1⟩ := HS.out.cells 1 rfl; obtain ⟨y0, y1⟩ := HS.out.cells 0 rfl))
    cases HK.out
    have HS2 := Aside0.mk HS.out.drew
    refine q_begin (fun W => St w W [batE g8 r7 r8 r9 r10 r11 (.slice U r12.length p), batE g7 r1 r2 r3 r4 r5 (.slice V r6.length q)]) [] 5 (by kernel_rfl) rfl (((((HS2.out.del 6).del 5).del 4).del 3).del 2) (fun hS => ?_)
    clear f0 f1 p0 p1 q0 q1 y0 y1 HS
    generalize World.drew _ = W at hS HS2 ⊢
    repeat (first | (refine q_go (v := ?_) (by kernel_rfl) (by rfl) (fun _ _ _ h => h) hS ?_ ?_; rotate_left; (focus (intro w hS; obtain ⟨f0, f1⟩ := hS.cells 1 rfl; obtain ⟨p0, p1⟩ := hS.cells 0 rfl; go_simp; first | done | with_reducible rfl)); simp only [Act.put, List.setIfInBounds_toArray, List.set_cons_zero, List.set_cons_succ, Nat.reduceAdd]))
    obtain ⟨f0, f1⟩ := HS2.out.cells 5 rfl
    replace HS2 := Aside0.mk (HS2.out.set6 5 rfl (.bool r1) (.bool r2) (.int .i64 r3) (.int .i64 r4) (.int .i64 r5) (.slice V r6.length q))
    refine q_put (by kernel_rfl) (by simp) (by rfl) rfl (by go_simp; try rfl) (((((HS2.out.del 6).del 5).del 4).del 3).del 2) (fun hS => ?_)
    clear f0 f1
    obtain ⟨f0, f1⟩ := HS2.out.cells 4 rfl
    replace HS2 := Aside0.mk (HS2.out.set6 4 rfl (.bool r7) (.bool r8) (.int .i64 r9) (.int .i64 r10) (.int .i64 r11) (.slice U r12.length p))
    refine q_put (by kernel_rfl) (by simp) (by rfl) rfl (by go_simp; try rfl) (((((HS2.out.del 6).del 5).del 4).del 3).del 2) (fun hS => ?_)
    clear f0 f1
    repeat (first | (refine q_go (v := ?_) (by kernel_rfl) (by rfl) (fun _ _ _ h => h) hS ?_ ?_; rotate_left; (focus (intro w hS; obtain ⟨f0, f1⟩ := hS.cells 1 rfl; obtain ⟨p0, p1⟩ := hS.cells 0 rfl; go_simp; first | done | with_reducible rfl)); simp only [Act.put, List.setIfInBounds_toArray, List.set_cons_zero, List.set_cons_succ, Nat.reduceAdd]))
    refine q_done (by kernel_rfl) ?_
    go_wp2
    refine bodyPost_ret (results_list (rs := [.cell 4 28, .cell 5 28, .tmp 6]) rfl (by simp) (.cell g4 28 #[.bool r1, .bool r2, .int .i64 r3, .int .i64 r4, .int .i64 r5, .slice V r6.length q] (0, 0) _ rfl (HS2.out.getB 5 rfl) Tryd.underlying28 rfl (by kernel_rfl) (.cell g5 28 #[.bool r7, .bool r8, .int .i64 r9, .int .i64 r10, .int .i64 r11, .slice U r12.length p] (0, 0) _ rfl (HS2.out.getB 4 rfl) Tryd.underlying28 rfl (by kernel_rfl) (.tmp .nil)))) rfl ?_
    exact ⟨_, _, _, by rfl, HS2.out.getS 2 rfl, Kd.S_mono (HS2.out.getS 3 rfl) (fun k h1 h2 => HS2.out.apart 2 3 rfl rfl (by omega) k h2 h1), HS2.out.below⟩
end Go.Proofs.YtfjkpdhldeopaaaDoor.G

namespace Go.Proofs.YtfjkpdhldeopaaaDoor.G
open Go.RowKit Go.Proofs.YtfjkpdhldeopaaaDoorW.PrintWords Go.Proofs.YtfjkpdhldeopaaaDoorW.PrintLast Go.Proofs.YtfjkpdhldeopaaaDoorW.PrintMore
attribute [local go_sem] max2_int min2_int max_two min_two max_three min_three max_four min_four   -- for this text's walks alone
set_option linter.unusedVariables false
set_option linter.unusedSimpArgs false

def impl_Batch_last.f (a0_0 : Bool) (a0_1 : Bool) (a0_2 : Int) (a0_3 : Int) (a0_4 : Int) (l0_5 : List (S62)) : Option (Int) := if 0 ≤ (wrap64 ((l0_5.length : Int) - 1)) then (if (wrap64 ((l0_5.length : Int) - 1)) < (l0_5.length : Int) then (some ((rd_T62 l0_5 (wrap64 ((l0_5.length : Int) - 1))).f0)) else (none)) else (none)
set_option maxHeartbeats 8000000 in
set_option maxRecDepth 100000 in
theorem impl_Batch_last.calls (a0_0 : Bool) (a0_1 : Bool) (a0_2 : Int) (a0_3 : Int) (a0_4 : Int) (A0_5 : Option Addr) (c0_5 : Nat) (l0_5 : List (S62)) (r : Int) (w : World) (hr0_5 : Kd.C k62 w A0_5 l0_5.length l0_5) (hc0_5 : l0_5.length ≤ c0_5) (h : impl_Batch_last.f a0_0 a0_1 a0_2 a0_3 a0_4 l0_5 = some r) :
  Calls Tryd.prog 39 #[.agg #[.bool a0_0, .bool a0_1, .int .i64 a0_2, .int .i64 a0_3, .int .i64 a0_4, .slice A0_5 l0_5.length c0_5]] w fun e w' => e = .returned (.int .i64 r) ∧ Below w.heap.size w w' := by
 have hu28 := Tryd.underlying28
 have HR0_5 := Aside0.mk hr0_5
 have HC0_5 := Aside0.mk hc0_5
 clear hr0_5 hc0_5
 have HB := Aside0.mk (Below.refl w.heap.size w)
 have H : (if 0 ≤ (wrap64 ((l0_5.length : Int) - 1)) then (if (wrap64 ((l0_5.length : Int) - 1)) < (l0_5.length : Int) then (some ((rd_T62 l0_5 (wrap64 ((l0_5.length : Int) - 1))).f0)) else (none)) else (none)) = some r := h
 clear h
 obtain ⟨ji2, hji2⟩ : ∃ j_ : Int, (wrap64 ((l0_5.length : Int) - 1)) = j_ := ⟨_, rfl⟩
 replace H : (if 0 ≤ (ji2) then (if (ji2) < (l0_5.length : Int) then (some ((rd_T62 l0_5 (ji2)).f0)) else (none)) else (none)) = some r := by first | (rw [hji2] at H; exact H) | (simp only [hji2] at H ⊢; exact H)
 have hji2w : (IntKind.i64.wrap ((l0_5.length : Int) - 1)) = ji2 := (i64_w _).trans hji2
 by_cases c3 : 0 ≤ (ji2)
 ·rw [if_pos c3] at H
  have c3b0 : decide (0 ≤ (ji2)) = true := decide_eq_true c3
  clear c3
  by_cases c4 : (ji2) < (l0_5.length : Int)
  ·rw [if_pos c4] at H
   have c4b0 : decide ((ji2) < (l0_5.length : Int)) = true := decide_eq_true c4
   clear c4
   obtain rfl := Option.some.inj H
   go_enter Tryd.func39, Tryd.ntmps39
   go_wp2_with (first | ((with_reducible refine gate_dst (N := 1) rfl ?_); refine box_event ?hg (N := 1) ?hd (cs := #[.bool a0_0, .bool a0_1, .int .i64 a0_2, .int .i64 a0_3, .int .i64 a0_4, .slice A0_5 l0_5.length c0_5]) (t := 28) ?hr ?_; (case hd => rfl); (case hg => rfl); (case hr => first | (go_simp; done) | (go_simp; rfl)); intro gb478 hg w5 hbox hb; have BK478 := Aside0.mk (hbox); have GW478 := tge HB hg; have GE478 := tge HB hg; replace HB := tBs HB hb; clear hb hbox hg; obtain ⟨hcz6_0, hcz6_1, hcz6_2, hcz6_3, hcz6_4, hcz6_5, hfz6_0, hfz6_1, hfz6_2, hfz6_3, hfz6_4, hfz6_5⟩ := cells6 BK478.out; have p479 : 0 ≤ ((ji2) : Int) := td; have q479 : (ji2) < (l0_5.length : Int) := td; obtain ⟨ad479, A479_3, c479_3, A479_5, c479_5, e479, hx479_0, hx479_1, hx479_2, hx479_3, hx479_4, hx479_5, hl479_3, hi479_3, hl479_5, hi479_5⟩ := at_T62 HR0_5.out (ji2) p479 q479; cases e479; replace hx479_0 := tcl HB hx479_0; replace hx479_1 := tcl HB hx479_1; replace hx479_2 := tcl HB hx479_2; replace hx479_3 := tcl HB hx479_3; replace hx479_4 := tcl HB hx479_4; replace hx479_5 := tcl HB hx479_5; have HR479_3 := Aside0.mk hi479_3; have HC479_3 := Aside0.mk hl479_3; clear hi479_3 hl479_3; have HR479_5 := Aside0.mk hi479_5; have HC479_5 := Aside0.mk hl479_5; clear hi479_5 hl479_5; replace p479 := eq_true p479; replace q479 := eq_true q479))
   go_ret
   exact ⟨by first | rfl | (simp [errW_none, errW_some] <;> rfl) | (simp only [← hji2]; first | rfl | (simp [errW_none, errW_some] <;> rfl)) | (simp [*, errW_none, errW_some] <;> rfl), zb⟩
  ·rw [if_neg c4] at H
   exact absurd H (by simp)
 ·rw [if_neg c3] at H
  exact absurd H (by simp)

def impl_Batch_first.f (a0_0 : Bool) (a0_1 : Bool) (a0_2 : Int) (a0_3 : Int) (a0_4 : Int) (l0_5 : List (S62)) : Option (Int) := if 0 < (l0_5.length : Int) then (some ((rd_T62 l0_5 0).f0)) else (none)
set_option maxHeartbeats 8000000 in
set_option maxRecDepth 100000 in
theorem impl_Batch_first.calls (a0_0 : Bool) (a0_1 : Bool) (a0_2 : Int) (a0_3 : Int) (a0_4 : Int) (A0_5 : Option Addr) (c0_5 : Nat) (l0_5 : List (S62)) (r : Int) (w : World) (hr0_5 : Kd.C k62 w A0_5 l0_5.length l0_5) (hc0_5 : l0_5.length ≤ c0_5) (h : impl_Batch_first.f a0_0 a0_1 a0_2 a0_3 a0_4 l0_5 = some r) :
  Calls Tryd.prog 41 #[.agg #[.bool a0_0, .bool a0_1, .int .i64 a0_2, .int .i64 a0_3, .int .i64 a0_4, .slice A0_5 l0_5.length c0_5]] w fun e w' => e = .returned (.int .i64 r) ∧ Below w.heap.size w w' := by
 have hu28 := Tryd.underlying28
 have HR0_5 := Aside0.mk hr0_5
 have HC0_5 := Aside0.mk hc0_5
 clear hr0_5 hc0_5
 have HB := Aside0.mk (Below.refl w.heap.size w)
 have H : (if 0 < (l0_5.length : Int) then (some ((rd_T62 l0_5 0).f0)) else (none)) = some r := h
 clear h
 by_cases c2 : 0 < (l0_5.length : Int)
 ·rw [if_pos c2] at H
  have c2b0 : decide (0 < (l0_5.length : Int)) = true := decide_eq_true c2
  have c2b1 : decide (0 < l0_5.length) = true := decide_eq_true (by omega)
  clear c2
  obtain rfl := Option.some.inj H
  go_enter Tryd.func41, Tryd.ntmps41
  go_wp2_with (first | ((with_reducible refine gate_dst (N := 1) rfl ?_); refine box_event ?hg (N := 1) ?hd (cs := #[.bool a0_0, .bool a0_1, .int .i64 a0_2, .int .i64 a0_3, .int .i64 a0_4, .slice A0_5 l0_5.length c0_5]) (t := 28) ?hr ?_; (case hd => rfl); (case hg => rfl); (case hr => first | (go_simp; done) | (go_simp; rfl)); intro gb480 hg w3 hbox hb; have BK480 := Aside0.mk (hbox); have GW480 := tge HB hg; have GE480 := tge HB hg; replace HB := tBs HB hb; clear hb hbox hg; obtain ⟨hcz4_0, hcz4_1, hcz4_2, hcz4_3, hcz4_4, hcz4_5, hfz4_0, hfz4_1, hfz4_2, hfz4_3, hfz4_4, hfz4_5⟩ := cells6 BK480.out; have p481 : 0 ≤ (0 : Int) := (by omega); have q481 : 0 < (l0_5.length : Int) := td; obtain ⟨ad481, A481_3, c481_3, A481_5, c481_5, e481, hx481_0, hx481_1, hx481_2, hx481_3, hx481_4, hx481_5, hl481_3, hi481_3, hl481_5, hi481_5⟩ := at_T62 HR0_5.out 0 p481 q481; cases e481; have qi481 : (0 < l0_5.length) = True := eq_true (by omega); (try rw [show ((0 : Int)).toNat = 0 from rfl] at hx481_0); (try rw [show 0 * 6 = 0 from rfl] at hx481_0); (try rw [Addr.add_zero'] at hx481_0); (try rw [show ((0 : Int)).toNat = 0 from rfl] at hx481_1); (try rw [show 0 * 6 = 0 from rfl] at hx481_1); (try rw [Addr.add_zero'] at hx481_1); (try rw [show ((0 : Int)).toNat = 0 from rfl] at hx481_2); (try rw [show 0 * 6 = 0 from rfl] at hx481_2); (try rw [Addr.add_zero'] at hx481_2); (try rw [show ((0 : Int)).toNat = 0 from rfl] at hx481_3); (try rw [show 0 * 6 = 0 from rfl] at hx481_3); (try rw [Addr.add_zero'] at hx481_3); (try rw [show ((0 : Int)).toNat = 0 from rfl] at hx481_4); (try rw [show 0 * 6 = 0 from rfl] at hx481_4); (try rw [Addr.add_zero'] at hx481_4); (try rw [show ((0 : Int)).toNat = 0 from rfl] at hx481_5); (try rw [show 0 * 6 = 0 from rfl] at hx481_5); (try rw [Addr.add_zero'] at hx481_5); replace hx481_0 := tcl HB hx481_0; replace hx481_1 := tcl HB hx481_1; replace hx481_2 := tcl HB hx481_2; replace hx481_3 := tcl HB hx481_3; replace hx481_4 := tcl HB hx481_4; replace hx481_5 := tcl HB hx481_5; have HR481_3 := Aside0.mk hi481_3; have HC481_3 := Aside0.mk hl481_3; clear hi481_3 hl481_3; have HR481_5 := Aside0.mk hi481_5; have HC481_5 := Aside0.mk hl481_5; clear hi481_5 hl481_5; replace p481 := eq_true p481; replace q481 := eq_true q481))
  go_ret
  exact ⟨by first | rfl | (simp [errW_none, errW_some] <;> rfl) | (simp [*, errW_none, errW_some] <;> rfl), zb⟩
 ·rw [if_neg c2] at H
  exact absurd H (by simp)

end Go.Proofs.YtfjkpdhldeopaaaDoor.G

namespace Go.Proofs.YtfjkpdhldeopaaaDoor.G
open Go.RowKit Go.Proofs.YtfjkpdhldeopaaaDoorW.PrintWords Go.Proofs.YtfjkpdhldeopaaaDoorW.PrintLast Go.Proofs.YtfjkpdhldeopaaaDoorW.PrintMore Go.Proofs.YtfjkpdhldeopaaaDoor.Pu
set_option linter.unusedVariables false
set_option linter.unusedSimpArgs false
theorem last_q (b : S28) (A : Option Addr) (c : Nat) (w : World) (hr : Kd.C k62 w A b.f5.length b.f5) (hc : b.f5.length ≤ c) (hn : 1 ≤ b.f5.length ∧ b.f5.length ≤ 6) : Calls Tryd.prog 39 #[.agg #[.bool b.f0, .bool b.f1, .int .i64 b.f2, .int .i64 b.f3, .int .i64 b.f4, .slice A b.f5.length c]] w fun e w' => e = .returned (.int .i64 (lastOf b)) ∧ Below w.heap.size w w' :=
  impl_Batch_last.calls _ _ _ _ _ A c b.f5 _ w hr hc (by
    unfold impl_Batch_last.f lastOf
    simp only [w64 (a := (b.f5.length : Int) - 1) (by omega) (by omega), if_pos (show (0 : Int) ≤ (b.f5.length : Int) - 1 by omega), if_pos (show (b.f5.length : Int) - 1 < (b.f5.length : Int) by omega), if_pos (show (0 : Int) < (b.f5.length : Int) by omega)])
theorem first_q (b : S28) (A : Option Addr) (c : Nat) (w : World) (hr : Kd.C k62 w A b.f5.length b.f5) (hc : b.f5.length ≤ c) (hn : 1 ≤ b.f5.length ∧ b.f5.length ≤ 6) : Calls Tryd.prog 41 #[.agg #[.bool b.f0, .bool b.f1, .int .i64 b.f2, .int .i64 b.f3, .int .i64 b.f4, .slice A b.f5.length c]] w fun e w' => e = .returned (.int .i64 (firstOf b)) ∧ Below w.heap.size w w' :=
  impl_Batch_first.calls _ _ _ _ _ A c b.f5 _ w hr hc (by
    unfold impl_Batch_first.f firstOf
    simp only [w64 (a := (b.f5.length : Int) - 1) (by omega) (by omega), if_pos (show (0 : Int) ≤ (b.f5.length : Int) - 1 by omega), if_pos (show (b.f5.length : Int) - 1 < (b.f5.length : Int) by omega), if_pos (show (0 : Int) < (b.f5.length : Int) by omega)])
set_option maxRecDepth 100000 in
set_option maxHeartbeats 4000000 in
theorem impllog_q (l : List S28) (A : Option Addr) (c : Nat) (w : World) (hr : Kd.C k28 w A l.length l) (hc : l.length ≤ c) :
    Calls Tryd.prog 38 #[.slice A l.length c] w fun e w' => e = .returned (.bool (logOk l)) ∧ Below w.heap.size w w' := by
  have hl := hr.2.1
  unfold logOk
  have HR := Aside0.mk hr
  clear hr
  by_cases h8 : (l.length : Int) ≤ 8
  · rw [decide_eq_true h8, Bool.and_true]
    go_enter Tryd.func38, Tryd.ntmps38
    go_wp2
    go_loopw [10] (fun v10 wr => ∃ i : Nat, v10 = .int .i64 i ∧ i ≤ l.length ∧ (∀ j, j < i → batStep l j = true) ∧ Below w.heap.size w wr) (fun v10 _ => l.length - (intOf v10).toNat)
    case atStart => exact ⟨0, rfl, Nat.zero_le _, fun j hj => absurd hj (Nat.not_lt_zero j), Below.refl _ _⟩
    case round =>
      obtain ⟨i, rfl, hi, hall, hB1⟩ := hrel
      by_cases hlt : i < l.length
      · obtain ⟨ad, A5, c5, rfl, e0, e1, e2, e3, e4, e5, l5, g5⟩ := at_T28 (Kd.C_below HR.out hB1) (i : Int) (by omega) (by omega)
        rw [show ((i : Int)).toNat = i from rfl] at e0 e1 e2 e3 e4 e5
        have hrec : batStep l i = (batOk (rd_T28 l (i : Int)) && (decide (i = 0) || decide (lastOf (rd_T28 l ((i : Int) - 1)) < firstOf (rd_T28 l (i : Int))))) := rfl
        generalize rd_T28 l (i : Int) = bi at *
        go_wp2
        have bR := heap_alloc_new wr (.cells #[.bool bi.f0, .bool bi.f1, .int .i64 bi.f2, .int .i64 bi.f3, .int .i64 bi.f4, .slice A5 bi.f5.length c5] 28)
        have hB2 := below_alloc hB1 (.cells #[.bool bi.f0, .bool bi.f1, .int .i64 bi.f2, .int .i64 bi.f3, .int .i64 bi.f4, .slice A5 bi.f5.length c5] 28)
        have hBr := below_alloc (Below.refl wr.heap.size wr) (.cells #[.bool bi.f0, .bool bi.f1, .int .i64 bi.f2, .int .i64 bi.f3, .int .i64 bi.f4, .slice A5 bi.f5.length c5] 28)
        generalize wr.alloc _ = W1 at bR hB2 hBr ⊢
        have HRC := Aside0.mk (fun (W2 : World) (hb : Below wr.heap.size wr W2) => implbat_q bi A5 c5 W2 (Kd.C_below g5 hb) l5)
        have HF := Aside0.mk (fun (W2 : World) (hb : Below wr.heap.size wr W2) (hn : 1 ≤ bi.f5.length ∧ bi.f5.length ≤ 6) => first_q bi A5 c5 W2 (Kd.C_below g5 hb) l5 hn)
        have kS : ∀ w' : World, Below W1.drew.heap.size W1.drew w' → CellsB w' ⟨wr.heap.size, 0, none⟩ bi A5 c5 ∧ Below W1.heap.size W1 w' := fun w' h => ⟨⟨pw_cell_below h (blk_cell bR 0), pw_cell_below h (blk_cell bR 1), pw_cell_below h (blk_cell bR 2), pw_cell_below h (blk_cell bR 3), pw_cell_below h (blk_cell bR 4), pw_cell_below h (blk_cell bR 5)⟩, below_step (below_drew (Below.refl _ W1)) h⟩
        rcases hok : batOk bi with _ | _ <;> rw [hok] at HRC
        · have hno := Aside0.mk (logs_no hlt (hrec.trans (by rw [hok]; rfl)))
          refine r_begin (fun w' => CellsB w' ⟨wr.heap.size, 0, none⟩ bi A5 c5 ∧ Below W1.heap.size W1 w') 18 (by kernel_rfl) rfl (kS _ (Below.refl _ _)) (fun hH => ?_)
          repeat (first | (refine r_skip (by kernel_rfl) (by rfl) (fun _ _ _ h => h) hH ?_; simp only [Act.put, List.setIfInBounds_toArray, List.set_cons_zero, List.set_cons_succ, Nat.reduceAdd]) | (refine r_go (v := ?_) (by kernel_rfl) (by rfl) (fun _ _ _ h => h) hH ?_ ?_; rotate_left; (focus (intro w hS; obtain ⟨⟨e0, e1, e2, e3, e4, e5⟩, e6⟩ := hS; go_simp; first | done | with_reducible rfl)); simp only [Act.put, List.setIfInBounds_toArray, List.set_cons_zero, List.set_cons_succ, Nat.reduceAdd]) | (fail "x"))
          refine r_one (by kernel_rfl) (by rfl) (fun K hK => ?_)
          go_simp
          go_at_call 47
          refine (HRC.out _ (below_step hBr hH.2)).mono ?_
          rintro e w2 ⟨rfl, hb⟩
          go_wp2_with fail
          refine hK.out _ _ (kS _ hb) (fun hH => ?_)
          clear hK K
          simp only [Act.put, List.setIfInBounds_toArray, List.set_cons_zero, List.set_cons_succ, Nat.reduceAdd]
          repeat (first | (refine r_skip (by kernel_rfl) (by rfl) (fun _ _ _ h => h) hH ?_; simp only [Act.put, List.setIfInBounds_toArray, List.set_cons_zero, List.set_cons_succ, Nat.reduceAdd]) | (refine r_go (v := ?_) (by kernel_rfl) (by rfl) (fun _ _ _ h => h) hH ?_ ?_; rotate_left; (focus (intro w hS; obtain ⟨⟨e0, e1, e2, e3, e4, e5⟩, e6⟩ := hS; go_simp; first | done | with_reducible rfl)); simp only [Act.put, List.setIfInBounds_toArray, List.set_cons_zero, List.set_cons_succ, Nat.reduceAdd]) | (fail "x"))
          refine r_done (by kernel_rfl) ?_
          go_wp2
          go_ret
          exact ⟨by rw [hno.out]; rfl, below_step hB2 hH.2⟩
        · rcases i with _ | j
          · refine r_begin (fun w' => CellsB w' ⟨wr.heap.size, 0, none⟩ bi A5 c5 ∧ Below W1.heap.size W1 w') 18 (by kernel_rfl) rfl (kS _ (Below.refl _ _)) (fun hH => ?_)
            repeat (first | (refine r_skip (by kernel_rfl) (by rfl) (fun _ _ _ h => h) hH ?_; simp only [Act.put, List.setIfInBounds_toArray, List.set_cons_zero, List.set_cons_succ, Nat.reduceAdd]) | (refine r_go (v := ?_) (by kernel_rfl) (by rfl) (fun _ _ _ h => h) hH ?_ ?_; rotate_left; (focus (intro w hS; obtain ⟨⟨e0, e1, e2, e3, e4, e5⟩, e6⟩ := hS; go_simp; first | done | with_reducible rfl)); simp only [Act.put, List.setIfInBounds_toArray, List.set_cons_zero, List.set_cons_succ, Nat.reduceAdd]) | (fail "x"))
            refine r_one (by kernel_rfl) (by rfl) (fun K hK => ?_)
            go_simp
            go_at_call 47
            refine (HRC.out _ (below_step hBr hH.2)).mono ?_
            rintro e w2 ⟨rfl, hb⟩
            go_wp2_with fail
            refine hK.out _ _ (kS _ hb) (fun hH => ?_)
            clear hK K
            simp only [Act.put, List.setIfInBounds_toArray, List.set_cons_zero, List.set_cons_succ, Nat.reduceAdd]
            repeat (first | (refine r_skip (by kernel_rfl) (by rfl) (fun _ _ _ h => h) hH ?_; simp only [Act.put, List.setIfInBounds_toArray, List.set_cons_zero, List.set_cons_succ, Nat.reduceAdd]) | (refine r_go (v := ?_) (by kernel_rfl) (by rfl) (fun _ _ _ h => h) hH ?_ ?_; rotate_left; (focus (intro w hS; obtain ⟨⟨e0, e1, e2, e3, e4, e5⟩, e6⟩ := hS; go_simp; first | done | with_reducible rfl)); simp only [Act.put, List.setIfInBounds_toArray, List.set_cons_zero, List.set_cons_succ, Nat.reduceAdd]) | (fail "x"))
            refine r_done (by kernel_rfl) ?_
            go_wp2
            go_roundw
            case rel =>
              have hst : ∀ j, j < 0 + 1 → batStep l j = true := by
                intro j hj
                obtain rfl : j = 0 := by omega
                exact hrec.trans (by rw [hok]; rfl)
              first | exact ⟨0 + 1, by simp, hlt, hst, below_step hB2 hH.2⟩ | ((repeat apply Exists.intro); refine ⟨⟨0 + 1, ?_, hlt, hst, below_step hB2 hH.2⟩, by first | rfl | (repeat' apply And.intro) <;> rfl⟩; simp)
            case measure => simp [intOf]; omega
          · obtain ⟨ad2, A4, c4, hq, f0, f1, f2, f3, f4, f5, l4, g4⟩ := at_T28 (Kd.C_below HR.out hB1) (j : Int) (by omega) (by omega)
            cases hq
            rw [show ((j : Int)).toNat = j from rfl] at f0 f1 f2 f3 f4 f5
            have hjs := hall j (by omega)
            have hrec2 : batStep l (j + 1) = (batOk bi && (decide (j + 1 = 0) || decide (lastOf (rd_T28 l (j : Int)) < firstOf bi))) := by
              rw [hrec, show ((j + 1 : Nat) : Int) - 1 = (j : Int) by omega]
            unfold batStep at hjs
            have hbj := (Bool.and_eq_true_iff.1 hjs).1
            clear hjs
            generalize rd_T28 l (j : Int) = bj at *
            have hnj := batOk_len hbj
            have hni := batOk_len hok
            have cj : CellsB wr (ad.add (j * 6)) bj A4 c4 := ⟨f0, f1, f2, f3, f4, f5⟩
            have cj1 := cj.below hBr
            have hwj : IntKind.i64.wrap (j : Int) = (j : Int) := by rw [i64_w]; unfold wrap64; omega
            have hjl : (j : Int) < (l.length : Int) := by omega
            have HL := Aside0.mk (fun (W2 : World) (hb : Below wr.heap.size wr W2) => last_q bj A4 c4 W2 (Kd.C_below g4 hb) l4 hnj)
            have kS2 : ∀ w' : World, Below W1.heap.size W1 w' → CellsB w' ⟨wr.heap.size, 0, none⟩ bi A5 c5 ∧ CellsB w' (ad.add (j * 6)) bj A4 c4 ∧ Below W1.heap.size W1 w' := fun w' h => ⟨⟨pw_cell_below h (blk_cell bR 0), pw_cell_below h (blk_cell bR 1), pw_cell_below h (blk_cell bR 2), pw_cell_below h (blk_cell bR 3), pw_cell_below h (blk_cell bR 4), pw_cell_below h (blk_cell bR 5)⟩, cj1.below h, h⟩
            have hno := Aside0.mk hrec2
            clear hrec hrec2
            clear cj cj1 f0 f1 f2 f3 f4 f5 e0 e1 e2 e3 e4 e5
            go_region_held3 (fun w' => (w'.cell? ⟨wr.heap.size, 0, none⟩ = some (.bool bi.f0) ∧ w'.cell? ⟨wr.heap.size, 0 + 1, none⟩ = some (.bool bi.f1) ∧ w'.cell? ⟨wr.heap.size, 0 + 2, none⟩ = some (.int .i64 bi.f2) ∧ w'.cell? ⟨wr.heap.size, 0 + 3, none⟩ = some (.int .i64 bi.f3) ∧ w'.cell? ⟨wr.heap.size, 0 + 4, none⟩ = some (.int .i64 bi.f4) ∧ w'.cell? ⟨wr.heap.size, 0 + 5, none⟩ = some (.slice A5 bi.f5.length c5)) ∧ (w'.cell? (ad.add (j * 6)) = some (.bool bj.f0) ∧ w'.cell? ⟨(ad.add (j * 6)).block, (ad.add (j * 6)).off + 1, none⟩ = some (.bool bj.f1) ∧ w'.cell? ⟨(ad.add (j * 6)).block, (ad.add (j * 6)).off + 2, none⟩ = some (.int .i64 bj.f2) ∧ w'.cell? ⟨(ad.add (j * 6)).block, (ad.add (j * 6)).off + 3, none⟩ = some (.int .i64 bj.f3) ∧ w'.cell? ⟨(ad.add (j * 6)).block, (ad.add (j * 6)).off + 4, none⟩ = some (.int .i64 bj.f4) ∧ w'.cell? ⟨(ad.add (j * 6)).block, (ad.add (j * 6)).off + 5, none⟩ = some (.slice A4 bj.f5.length c4)) ∧ Below W1.heap.size W1 w') (first | exact kS2 _ (below_drew (Below.refl _ _)) | exact kS2 _ (below_step (below_drew (Below.refl _ _)) ‹_›) | exact kS2 _ (below_step (‹_ ∧ _ ∧ Below W1.heap.size W1 _›).2.2 ‹_›))
              (first | (go_at_call 47; refine (HRC.out _ (below_step hBr (by first | exact below_drew (Below.refl _ _) | exact (‹_ ∧ _ ∧ Below W1.heap.size W1 _›).2.2))).mono ?_; rintro e w' ⟨rfl, hb⟩) | (go_at_call 39; refine (HL.out _ (below_step hBr (by first | exact below_drew (Below.refl _ _) | exact (‹_ ∧ _ ∧ Below W1.heap.size W1 _›).2.2))).mono ?_; rintro e w' ⟨rfl, hb⟩) | (go_at_call 41; refine (HF.out _ (below_step hBr (by first | exact below_drew (Below.refl _ _) | exact (‹_ ∧ _ ∧ Below W1.heap.size W1 _›).2.2)) hni).mono ?_; rintro e w' ⟨rfl, hb⟩))
            all_goals
              have hBw := below_step hB2 (‹_ ∧ _ ∧ Below W1.heap.size W1 _›).2.2
              by_cases hc : lastOf bj < firstOf bi
              · have hst : ∀ j', j' < j + 1 + 1 → batStep l j' = true := by
                  intro j' hj
                  by_cases h' : j' < j + 1
                  · exact hall j' h'
                  · obtain rfl : j' = j + 1 := by omega
                    rw [hno.out, hok, decide_eq_true hc, Bool.or_true]; rfl
                have hng : ¬ firstOf bi ≤ lastOf bj := by omega
                go_wp2
                go_roundw
                case rel => first | exact ⟨j + 1 + 1, by simp, hlt, hst, hBw⟩ | ((repeat apply Exists.intro); refine ⟨⟨j + 1 + 1, ?_, hlt, hst, hBw⟩, by first | rfl | (repeat' apply And.intro) <;> rfl⟩; simp)
                case measure => simp [intOf]; omega
              · have hn2 := Aside0.mk (logs_no hlt (hno.out.trans (by rw [hok, decide_eq_false hc, decide_eq_false (show ¬ j + 1 = 0 by omega)]; rfl)))
                have hng : firstOf bi ≤ lastOf bj := by omega
                go_wp2
                go_ret
                exact ⟨by rw [hn2.out]; rfl, hBw⟩
      · obtain rfl : i = l.length := by omega
        go_wp2
        go_ret
        exact ⟨by rw [logs_of hall]; rfl, hB1⟩
  · rw [decide_eq_false h8, Bool.and_false]
    have hg : (8 : Int) < (l.length : Int) := by omega
    go_enter Tryd.func38, Tryd.ntmps38
    go_wp2
    go_ret
    exact ⟨rfl, Below.refl _ _⟩
def impl_LogValid.f (k : Nat) (a0 : List S28) : Option Bool := some (logOk a0)
theorem impl_LogValid.calls (k : Nat) (A0 : Option Addr) (c0 : Nat) (l0 : List (S28)) (r : Bool) (w : World) (hr0 : Kd.C k28 w A0 l0.length l0) (hc0 : l0.length ≤ c0) (h : impl_LogValid.f k l0 = some r) :
    Calls Tryd.prog 38 #[.slice A0 l0.length c0] w fun e w' => e = .returned (.bool r) ∧ Below w.heap.size w w' := by
  obtain rfl := Option.some.inj h
  exact impllog_q l0 A0 c0 w hr0 hc0
end Go.Proofs.YtfjkpdhldeopaaaDoor.G

namespace Go.Proofs.YtfjkpdhldeopaaaDoor.G
open Go.RowKit Go.Proofs.YtfjkpdhldeopaaaDoorW.PrintWords Go.Proofs.YtfjkpdhldeopaaaDoorW.PrintLast Go.Proofs.YtfjkpdhldeopaaaDoorW.PrintMore
attribute [local go_sem] max2_int min2_int max_two min_two max_three min_three max_four min_four   -- for this text's walks alone
set_option linter.unusedVariables false
set_option linter.unusedSimpArgs false

def impl_LogCut.l0 : Nat → Int → List (S28) → List (S28) → Int → Int → Option ((List (S28)) × Bool)
 | 0, _, _, _, _, _ => none
 | k + 1, x1, x6, x16, x17, x18 => if x18 < x17 then (if 0 ≤ x18 then (if x18 < (x16.length : Int) then ((impl_Batch_last.f ((rd_T28 x16 x18).f0) ((rd_T28 x16 x18).f1) ((rd_T28 x16 x18).f2) ((rd_T28 x16 x18).f3) ((rd_T28 x16 x18).f4) ((rd_T28 x16 x18).f5)).bind fun t488 => (if t488 < x1 then ((impl_Batch_copyOf.f k ((rd_T28 x16 x18).f0) ((rd_T28 x16 x18).f1) ((rd_T28 x16 x18).f2) ((rd_T28 x16 x18).f3) ((rd_T28 x16 x18).f4) ((rd_T28 x16 x18).f5)).bind fun bt489 => (if x6.length < 2513169434916 then (impl_LogCut.l0 k x1 (x6 ++ [(⟨bt489.1, bt489.2.1, bt489.2.2.1, bt489.2.2.2.1, bt489.2.2.2.2.1, bt489.2.2.2.2.2⟩ : S28)]) x16 x17 (wrap64 (x18 + 1))) else (none))) else ((impl_Batch_first.f ((rd_T28 x16 x18).f0) ((rd_T28 x16 x18).f1) ((rd_T28 x16 x18).f2) ((rd_T28 x16 x18).f3) ((rd_T28 x16 x18).f4) ((rd_T28 x16 x18).f5)).bind fun t500 => (if t500 < x1 then ((impl_BatchCut.f k ((rd_T28 x16 x18).f0) ((rd_T28 x16 x18).f1) ((rd_T28 x16 x18).f2) ((rd_T28 x16 x18).f3) ((rd_T28 x16 x18).f4) ((rd_T28 x16 x18).f5) x1).bind fun bt501 => (if bt501.2.2.2.2.2.2.2.2.2.2.2.2 = true then (if x6.length < 2513169434916 then (impl_LogCut.l0 k x1 (x6 ++ [(⟨bt501.1, bt501.2.1, bt501.2.2.1, bt501.2.2.2.1, bt501.2.2.2.2.1, bt501.2.2.2.2.2.1⟩ : S28)]) x16 x17 (wrap64 (x18 + 1))) else (none)) else (some (([] : List (S28)), false)))) else (impl_LogCut.l0 k x1 x6 x16 x17 (wrap64 (x18 + 1))))))) else (none)) else (none)) else (some (x6, true))
def impl_LogCut.f (k : Nat) (l0 : List (S28)) (a1 : Int) : Option ((List (S28)) × Bool) := (impl_LogValid.f k l0).bind fun t482 => (if t482 = true then (impl_LogCut.l0 k a1 (([] : List (S28))) l0 (l0.length : Int) 0) else (some (([] : List (S28)), false)))
def laws_eqBatchS.l0 : Nat → List (S28) → List (S28) → Int → Option (Bool)
 | 0, _, _, _ => none
 | k + 1, x0, x1, x5 => if x5 < (x0.length : Int) then (if 0 ≤ x5 then (if x5 < (x1.length : Int) then ((laws_eqBatch.f k ((rd_T28 x0 x5).f0) ((rd_T28 x0 x5).f1) ((rd_T28 x0 x5).f2) ((rd_T28 x0 x5).f3) ((rd_T28 x0 x5).f4) ((rd_T28 x0 x5).f5) ((rd_T28 x1 x5).f0) ((rd_T28 x1 x5).f1) ((rd_T28 x1 x5).f2) ((rd_T28 x1 x5).f3) ((rd_T28 x1 x5).f4) ((rd_T28 x1 x5).f5)).bind fun t525 => (if t525 = true then (laws_eqBatchS.l0 k x0 x1 (wrap64 (x5 + 1))) else (some false))) else (none)) else (none)) else (some true)
def laws_eqBatchS.f (k : Nat) (l0 : List (S28)) (l1 : List (S28)) : Option (Bool) := if (l0.length : Int) = (l1.length : Int) then (laws_eqBatchS.l0 k l0 l1 0) else (some false)
def laws_eqBatchS.T6 : Bool × List (List Nat × List Nat) := (true, [([], []), ([], []), ([0, 1], [0, 1]), ([2], [2]), ([], []), ([], []), ([4, 5], [4, 5]), ([6], [6]), ([3, 7], [3, 7]), ([8], [8])])
def laws_eqBatchS.B6 : List Nat := [0, 0, 3, 7, 0, 0, 48, 112, 255, 511]
theorem laws_eqBatchS.tab6 : rtab .any (opsOf Tryd.f20 6) = laws_eqBatchS.T6 := by kernel_rfl
theorem laws_eqBatchS.bits6 : waitsOk laws_eqBatchS.T6.2 laws_eqBatchS.B6 = true := by kernel_rfl
set_option maxHeartbeats 8000000 in
set_option maxRecDepth 100000 in
theorem laws_eqBatchS.calls (k : Nat) (A0 : Option Addr) (c0 : Nat) (l0 : List (S28)) (A1 : Option Addr) (c1 : Nat) (l1 : List (S28)) (r : Bool) (w : World) (hr0 : Kd.C k28 w A0 l0.length l0) (hc0 : l0.length ≤ c0) (hr1 : Kd.C k28 w A1 l1.length l1) (hc1 : l1.length ≤ c1) (h : laws_eqBatchS.f k l0 l1 = some r) :
  Calls Tryd.prog 20 #[.slice A0 l0.length c0, .slice A1 l1.length c1] w fun e w' => e = .returned (.bool r) ∧ Below w.heap.size w w' := by
 have hu28 := Tryd.underlying28
 have HR0 := Aside0.mk hr0
 have HC0 := Aside0.mk hc0
 clear hr0 hc0
 have HR1 := Aside0.mk hr1
 have HC1 := Aside0.mk hc1
 clear hr1 hc1
 have HB := Aside0.mk (Below.refl w.heap.size w)
 have H : (if (l0.length : Int) = (l1.length : Int) then (laws_eqBatchS.l0 k l0 l1 0) else (some false)) = some r := h
 clear h
 by_cases c3 : (l0.length : Int) = (l1.length : Int)
 ·rw [if_pos c3] at H
  have c3b0 : ((l0.length : Int) == (l1.length : Int)) = true := beq_iff_eq.mpr c3
  have c3b1 : ((l0.length : Int) != (l1.length : Int)) = false := bne_eq_false_iff_eq.mpr c3
  have c3b2 : (l0.length == l1.length) = true := by first | simpa using c3 | (simp at c3 ⊢; omega)
  clear c3
  have H' := Aside0.mk H
  clear H
  go_enter Tryd.func20, Tryd.ntmps20
  go_wp2
  go_loopg [5] k (fun kq v5 w' => ∃ (x5_1 : Int), v5 = .int .i64 x5_1 ∧ Aside0 (laws_eqBatchS.l0 kq l0 l1 x5_1 = some r) ∧ Aside0 (kq ≤ k) ∧ Aside0 (Below w.heap.size w w'))
  case atStart => exact ⟨(0), tr, H', ⟨Nat.le_refl _⟩, ⟨zb⟩⟩
  case round =>
   clear H'
   try clear c1; try clear c3; try clear c3b0; try clear c3b1; try clear c3b2
   obtain ⟨x5_1, rfl, HA, HK1, HB⟩ := hrel
   cases gk with
   | zero => exact absurd HA.out (by simp [laws_eqBatchS.l0])
   | succ k1 =>
    have H := HA.out
    clear HA
    simp only [laws_eqBatchS.l0] at H
    by_cases c4 : x5_1 < (l0.length : Int)
    ·rw [if_pos c4] at H
     have c4b0 : decide (x5_1 < (l0.length : Int)) = true := decide_eq_true c4
     clear c4
     by_cases c5 : 0 ≤ x5_1
     ·rw [if_pos c5] at H
      have c5b0 : decide (0 ≤ x5_1) = true := decide_eq_true c5
      clear c5
      by_cases c6 : x5_1 < (l1.length : Int)
      ·rw [if_pos c6] at H
       have c6b0 : decide (x5_1 < (l1.length : Int)) = true := decide_eq_true c6
       clear c6
       replace H := tbe H
       obtain ⟨t525, A7, H⟩ := H
       by_cases c8 : t525 = true
       ·subst c8
        rw [if_pos rfl] at H
        have H' := Aside0.mk H
        clear H
        try go_wp2
        replace HB := Aside0.mk (below_drew1 HB.out)
        have p523 : 0 ≤ (x5_1 : Int) := td
        have q523 : x5_1 < (l0.length : Int) := td
        obtain ⟨ad523, A523_5, c523_5, e523, hx523_0, hx523_1, hx523_2, hx523_3, hx523_4, hx523_5, hl523_5, hi523_5⟩ := at_T28 HR0.out x5_1 p523 q523
        have hw523_5 := hx523_5
        have hw523_4 := hx523_4
        have hw523_3 := hx523_3
        have hw523_2 := hx523_2
        have hw523_1 := hx523_1
        have hw523_0 := hx523_0
        cases e523
        replace hx523_0 := tcl HB hx523_0
        replace hx523_1 := tcl HB hx523_1
        replace hx523_2 := tcl HB hx523_2
        replace hx523_3 := tcl HB hx523_3
        replace hx523_4 := tcl HB hx523_4
        replace hx523_5 := tcl HB hx523_5
        have HR523_5 := Aside0.mk hi523_5
        have HC523_5 := Aside0.mk hl523_5
        clear hi523_5 hl523_5
        replace p523 := eq_true p523
        replace q523 := eq_true q523
        have p524 : 0 ≤ (x5_1 : Int) := td
        have q524 : x5_1 < (l1.length : Int) := td
        obtain ⟨ad524, A524_5, c524_5, e524, hx524_0, hx524_1, hx524_2, hx524_3, hx524_4, hx524_5, hl524_5, hi524_5⟩ := at_T28 HR1.out x5_1 p524 q524
        have hw524_5 := hx524_5
        have hw524_4 := hx524_4
        have hw524_3 := hx524_3
        have hw524_2 := hx524_2
        have hw524_1 := hx524_1
        have hw524_0 := hx524_0
        cases e524
        replace hx524_0 := tcl HB hx524_0
        replace hx524_1 := tcl HB hx524_1
        replace hx524_2 := tcl HB hx524_2
        replace hx524_3 := tcl HB hx524_3
        replace hx524_4 := tcl HB hx524_4
        replace hx524_5 := tcl HB hx524_5
        have HR524_5 := Aside0.mk hi524_5
        have HC524_5 := Aside0.mk hl524_5
        clear hi524_5 hl524_5
        replace p524 := eq_true p524
        replace q524 := eq_true q524
        refine start_ (n := 10) (S := fun w' => w'.cell? (ad523.add ((x5_1).toNat * 6)) = some (.bool ((rd_T28 l0 x5_1).f0)) ∧ w'.cell? ⟨(ad523.add ((x5_1).toNat * 6)).block, (ad523.add ((x5_1).toNat * 6)).off + 1, none⟩ = some (.bool ((rd_T28 l0 x5_1).f1)) ∧ w'.cell? ⟨(ad523.add ((x5_1).toNat * 6)).block, (ad523.add ((x5_1).toNat * 6)).off + 2, none⟩ = some (.int .i64 ((rd_T28 l0 x5_1).f2)) ∧ w'.cell? ⟨(ad523.add ((x5_1).toNat * 6)).block, (ad523.add ((x5_1).toNat * 6)).off + 3, none⟩ = some (.int .i64 ((rd_T28 l0 x5_1).f3)) ∧ w'.cell? ⟨(ad523.add ((x5_1).toNat * 6)).block, (ad523.add ((x5_1).toNat * 6)).off + 4, none⟩ = some (.int .i64 ((rd_T28 l0 x5_1).f4)) ∧ w'.cell? ⟨(ad523.add ((x5_1).toNat * 6)).block, (ad523.add ((x5_1).toNat * 6)).off + 5, none⟩ = some (.slice A523_5 ((rd_T28 l0 x5_1).f5).length c523_5) ∧ w'.cell? (ad524.add ((x5_1).toNat * 6)) = some (.bool ((rd_T28 l1 x5_1).f0)) ∧ w'.cell? ⟨(ad524.add ((x5_1).toNat * 6)).block, (ad524.add ((x5_1).toNat * 6)).off + 1, none⟩ = some (.bool ((rd_T28 l1 x5_1).f1)) ∧ w'.cell? ⟨(ad524.add ((x5_1).toNat * 6)).block, (ad524.add ((x5_1).toNat * 6)).off + 2, none⟩ = some (.int .i64 ((rd_T28 l1 x5_1).f2)) ∧ w'.cell? ⟨(ad524.add ((x5_1).toNat * 6)).block, (ad524.add ((x5_1).toNat * 6)).off + 3, none⟩ = some (.int .i64 ((rd_T28 l1 x5_1).f3)) ∧ w'.cell? ⟨(ad524.add ((x5_1).toNat * 6)).block, (ad524.add ((x5_1).toNat * 6)).off + 4, none⟩ = some (.int .i64 ((rd_T28 l1 x5_1).f4)) ∧ w'.cell? ⟨(ad524.add ((x5_1).toNat * 6)).block, (ad524.add ((x5_1).toNat * 6)).off + 5, none⟩ = some (.slice A524_5 ((rd_T28 l1 x5_1).f5).length c524_5)) (ds := []) #[false, false, false, false, false, false, false, false, false, false] (by kernel_rfl) rfl rfl ⟨(tcl HB hw523_0), (tcl HB hw523_1), (tcl HB hw523_2), (tcl HB hw523_3), (tcl HB hw523_4), (tcl HB hw523_5), (tcl HB hw524_0), (tcl HB hw524_1), (tcl HB hw524_2), (tcl HB hw524_3), (tcl HB hw524_4), (tcl HB hw524_5)⟩ (fun hHeld => ?_); refine with_tabW laws_eqBatchS.tab6 laws_eqBatchS.bits6 (fun HT_ HW_ => ?_)
        generalize wr.drew = w9 at HB HR523_5 HR524_5 hx523_0 hx523_1 hx523_2 hx523_3 hx523_4 hx523_5 hx524_0 hx524_1 hx524_2 hx524_3 hx524_4 hx524_5 hHeld ⊢
        refine tpu 0 (some 17) #[true, false, false, false, false, false, false, false, false, false] ?_
        refine tpu 1 (some 18) #[true, true, false, false, false, false, false, false, false, false] ?_
        refine tpu 2 (some 19) #[true, true, true, false, false, false, false, false, false, false] ?_
        refine tpu 4 (some 21) #[true, true, true, false, true, false, false, false, false, false] ?_
        refine tpu 5 (some 22) #[true, true, true, false, true, true, false, false, false, false] ?_
        refine tpu 6 (some 23) #[true, true, true, false, true, true, true, false, false, false] ?_
        refine tta 3 (some 20) #[true, true, true, true, true, true, true, false, false, false] hHeld ?_ (hy := by rintro w' ⟨s0, s1, s2, s3, s4, s5, s6, s7, s8, s9, s10, s11⟩; go_simp; with_reducible rfl)
        refine tta 7 (some 24) #[true, true, true, true, true, true, true, true, false, false] hHeld ?_ (hy := by rintro w' ⟨s0, s1, s2, s3, s4, s5, s6, s7, s8, s9, s10, s11⟩; go_simp; with_reducible rfl)
        refine one_ (i := 8) (N := some 25) #[true, true, true, true, true, true, true, true, true, false] rfl rfl (one_of HT_.out (by kernel_rfl)) (by decide) (fun K hK => ?_)
        refine goes_ Tryd.func11 (by kernel_rfl) rfl #[.agg #[.bool ((rd_T28 l0 x5_1).f0), .bool ((rd_T28 l0 x5_1).f1), .int .i64 ((rd_T28 l0 x5_1).f2), .int .i64 ((rd_T28 l0 x5_1).f3), .int .i64 ((rd_T28 l0 x5_1).f4), .slice A523_5 ((rd_T28 l0 x5_1).f5).length c523_5], .agg #[.bool ((rd_T28 l1 x5_1).f0), .bool ((rd_T28 l1 x5_1).f1), .int .i64 ((rd_T28 l1 x5_1).f2), .int .i64 ((rd_T28 l1 x5_1).f3), .int .i64 ((rd_T28 l1 x5_1).f4), .slice A524_5 ((rd_T28 l1 x5_1).f5).length c524_5]] (by rfl) rfl rfl tq ?_
        with_reducible refine (laws_eqBatch.calls k1 ((rd_T28 l0 x5_1).f0) ((rd_T28 l0 x5_1).f1) ((rd_T28 l0 x5_1).f2) ((rd_T28 l0 x5_1).f3) ((rd_T28 l0 x5_1).f4) _ _ ((rd_T28 l0 x5_1).f5) ((rd_T28 l1 x5_1).f0) ((rd_T28 l1 x5_1).f1) ((rd_T28 l1 x5_1).f2) ((rd_T28 l1 x5_1).f3) ((rd_T28 l1 x5_1).f4) _ _ ((rd_T28 l1 x5_1).f5) true _ ?side1 ?side2 ?side3 ?side4 A7.out).mono ?_
        (case side1 => exact tC (Kd.C_below HR523_5.out HB.out))
        (case side2 => exact HC523_5.out)
        (case side3 => exact tC (Kd.C_below HR524_5.out HB.out))
        (case side4 => exact HC524_5.out)
        rintro e w10 ⟨rfl, hb⟩
        refine ⟨_, rfl, ?_⟩
        replace HB := tBs HB hb
        (try clear hb)
        (try clear hb2)
        (try clear hk)
        (try clear hi)
        refine hK.out _ _ ⟨(tcl HB hw523_0), (tcl HB hw523_1), (tcl HB hw523_2), (tcl HB hw523_3), (tcl HB hw523_4), (tcl HB hw523_5), (tcl HB hw524_0), (tcl HB hw524_1), (tcl HB hw524_2), (tcl HB hw524_3), (tcl HB hw524_4), (tcl HB hw524_5)⟩ (fun hHeld => ?_)
        clear hK K
        refine tnm (some 25) ?_
        refine tpu 9 (some 26) #[true, true, true, true, true, true, true, true, true, true] ?_
        refine done_ (done_of HT_.out (by kernel_rfl)) ?_
        try go_wp2
        go_roundg k1
        case measure => have := HK1.out; omega
        case rel => exact ⟨(wrap64 (x5_1 + 1)), tr, H', ⟨by have := HK1.out; omega⟩, ⟨zb⟩⟩
       ·replace c8 := Bool.eq_false_iff.mpr c8
        subst c8
        rw [if_neg (show ¬ (false = true) by decide)] at H
        obtain rfl := Option.some.inj H
        try go_wp2
        replace HB := Aside0.mk (below_drew1 HB.out)
        have p523 : 0 ≤ (x5_1 : Int) := td
        have q523 : x5_1 < (l0.length : Int) := td
        obtain ⟨ad523, A523_5, c523_5, e523, hx523_0, hx523_1, hx523_2, hx523_3, hx523_4, hx523_5, hl523_5, hi523_5⟩ := at_T28 HR0.out x5_1 p523 q523
        have hw523_5 := hx523_5
        have hw523_4 := hx523_4
        have hw523_3 := hx523_3
        have hw523_2 := hx523_2
        have hw523_1 := hx523_1
        have hw523_0 := hx523_0
        cases e523
        replace hx523_0 := tcl HB hx523_0
        replace hx523_1 := tcl HB hx523_1
        replace hx523_2 := tcl HB hx523_2
        replace hx523_3 := tcl HB hx523_3
        replace hx523_4 := tcl HB hx523_4
        replace hx523_5 := tcl HB hx523_5
        have HR523_5 := Aside0.mk hi523_5
        have HC523_5 := Aside0.mk hl523_5
        clear hi523_5 hl523_5
        replace p523 := eq_true p523
        replace q523 := eq_true q523
        have p524 : 0 ≤ (x5_1 : Int) := td
        have q524 : x5_1 < (l1.length : Int) := td
        obtain ⟨ad524, A524_5, c524_5, e524, hx524_0, hx524_1, hx524_2, hx524_3, hx524_4, hx524_5, hl524_5, hi524_5⟩ := at_T28 HR1.out x5_1 p524 q524
        have hw524_5 := hx524_5
        have hw524_4 := hx524_4
        have hw524_3 := hx524_3
        have hw524_2 := hx524_2
        have hw524_1 := hx524_1
        have hw524_0 := hx524_0
        cases e524
        replace hx524_0 := tcl HB hx524_0
        replace hx524_1 := tcl HB hx524_1
        replace hx524_2 := tcl HB hx524_2
        replace hx524_3 := tcl HB hx524_3
        replace hx524_4 := tcl HB hx524_4
        replace hx524_5 := tcl HB hx524_5
        have HR524_5 := Aside0.mk hi524_5
        have HC524_5 := Aside0.mk hl524_5
        clear hi524_5 hl524_5
        replace p524 := eq_true p524
        replace q524 := eq_true q524
        refine start_ (n := 10) (S := fun w' => w'.cell? (ad523.add ((x5_1).toNat * 6)) = some (.bool ((rd_T28 l0 x5_1).f0)) ∧ w'.cell? ⟨(ad523.add ((x5_1).toNat * 6)).block, (ad523.add ((x5_1).toNat * 6)).off + 1, none⟩ = some (.bool ((rd_T28 l0 x5_1).f1)) ∧ w'.cell? ⟨(ad523.add ((x5_1).toNat * 6)).block, (ad523.add ((x5_1).toNat * 6)).off + 2, none⟩ = some (.int .i64 ((rd_T28 l0 x5_1).f2)) ∧ w'.cell? ⟨(ad523.add ((x5_1).toNat * 6)).block, (ad523.add ((x5_1).toNat * 6)).off + 3, none⟩ = some (.int .i64 ((rd_T28 l0 x5_1).f3)) ∧ w'.cell? ⟨(ad523.add ((x5_1).toNat * 6)).block, (ad523.add ((x5_1).toNat * 6)).off + 4, none⟩ = some (.int .i64 ((rd_T28 l0 x5_1).f4)) ∧ w'.cell? ⟨(ad523.add ((x5_1).toNat * 6)).block, (ad523.add ((x5_1).toNat * 6)).off + 5, none⟩ = some (.slice A523_5 ((rd_T28 l0 x5_1).f5).length c523_5) ∧ w'.cell? (ad524.add ((x5_1).toNat * 6)) = some (.bool ((rd_T28 l1 x5_1).f0)) ∧ w'.cell? ⟨(ad524.add ((x5_1).toNat * 6)).block, (ad524.add ((x5_1).toNat * 6)).off + 1, none⟩ = some (.bool ((rd_T28 l1 x5_1).f1)) ∧ w'.cell? ⟨(ad524.add ((x5_1).toNat * 6)).block, (ad524.add ((x5_1).toNat * 6)).off + 2, none⟩ = some (.int .i64 ((rd_T28 l1 x5_1).f2)) ∧ w'.cell? ⟨(ad524.add ((x5_1).toNat * 6)).block, (ad524.add ((x5_1).toNat * 6)).off + 3, none⟩ = some (.int .i64 ((rd_T28 l1 x5_1).f3)) ∧ w'.cell? ⟨(ad524.add ((x5_1).toNat * 6)).block, (ad524.add ((x5_1).toNat * 6)).off + 4, none⟩ = some (.int .i64 ((rd_T28 l1 x5_1).f4)) ∧ w'.cell? ⟨(ad524.add ((x5_1).toNat * 6)).block, (ad524.add ((x5_1).toNat * 6)).off + 5, none⟩ = some (.slice A524_5 ((rd_T28 l1 x5_1).f5).length c524_5)) (ds := []) #[false, false, false, false, false, false, false, false, false, false] (by kernel_rfl) rfl rfl ⟨(tcl HB hw523_0), (tcl HB hw523_1), (tcl HB hw523_2), (tcl HB hw523_3), (tcl HB hw523_4), (tcl HB hw523_5), (tcl HB hw524_0), (tcl HB hw524_1), (tcl HB hw524_2), (tcl HB hw524_3), (tcl HB hw524_4), (tcl HB hw524_5)⟩ (fun hHeld => ?_); refine with_tabW laws_eqBatchS.tab6 laws_eqBatchS.bits6 (fun HT_ HW_ => ?_)
        generalize wr.drew = w11 at HB HR523_5 HR524_5 hx523_0 hx523_1 hx523_2 hx523_3 hx523_4 hx523_5 hx524_0 hx524_1 hx524_2 hx524_3 hx524_4 hx524_5 hHeld ⊢
        refine tpu 0 (some 17) #[true, false, false, false, false, false, false, false, false, false] ?_
        refine tpu 1 (some 18) #[true, true, false, false, false, false, false, false, false, false] ?_
        refine tpu 2 (some 19) #[true, true, true, false, false, false, false, false, false, false] ?_
        refine tpu 4 (some 21) #[true, true, true, false, true, false, false, false, false, false] ?_
        refine tpu 5 (some 22) #[true, true, true, false, true, true, false, false, false, false] ?_
        refine tpu 6 (some 23) #[true, true, true, false, true, true, true, false, false, false] ?_
        refine tta 3 (some 20) #[true, true, true, true, true, true, true, false, false, false] hHeld ?_ (hy := by rintro w' ⟨s0, s1, s2, s3, s4, s5, s6, s7, s8, s9, s10, s11⟩; go_simp; with_reducible rfl)
        refine tta 7 (some 24) #[true, true, true, true, true, true, true, true, false, false] hHeld ?_ (hy := by rintro w' ⟨s0, s1, s2, s3, s4, s5, s6, s7, s8, s9, s10, s11⟩; go_simp; with_reducible rfl)
        refine one_ (i := 8) (N := some 25) #[true, true, true, true, true, true, true, true, true, false] rfl rfl (one_of HT_.out (by kernel_rfl)) (by decide) (fun K hK => ?_)
        refine goes_ Tryd.func11 (by kernel_rfl) rfl #[.agg #[.bool ((rd_T28 l0 x5_1).f0), .bool ((rd_T28 l0 x5_1).f1), .int .i64 ((rd_T28 l0 x5_1).f2), .int .i64 ((rd_T28 l0 x5_1).f3), .int .i64 ((rd_T28 l0 x5_1).f4), .slice A523_5 ((rd_T28 l0 x5_1).f5).length c523_5], .agg #[.bool ((rd_T28 l1 x5_1).f0), .bool ((rd_T28 l1 x5_1).f1), .int .i64 ((rd_T28 l1 x5_1).f2), .int .i64 ((rd_T28 l1 x5_1).f3), .int .i64 ((rd_T28 l1 x5_1).f4), .slice A524_5 ((rd_T28 l1 x5_1).f5).length c524_5]] (by rfl) rfl rfl tq ?_
        with_reducible refine (laws_eqBatch.calls k1 ((rd_T28 l0 x5_1).f0) ((rd_T28 l0 x5_1).f1) ((rd_T28 l0 x5_1).f2) ((rd_T28 l0 x5_1).f3) ((rd_T28 l0 x5_1).f4) _ _ ((rd_T28 l0 x5_1).f5) ((rd_T28 l1 x5_1).f0) ((rd_T28 l1 x5_1).f1) ((rd_T28 l1 x5_1).f2) ((rd_T28 l1 x5_1).f3) ((rd_T28 l1 x5_1).f4) _ _ ((rd_T28 l1 x5_1).f5) false _ ?side1 ?side2 ?side3 ?side4 A7.out).mono ?_
        (case side1 => exact tC (Kd.C_below HR523_5.out HB.out))
        (case side2 => exact HC523_5.out)
        (case side3 => exact tC (Kd.C_below HR524_5.out HB.out))
        (case side4 => exact HC524_5.out)
        rintro e w12 ⟨rfl, hb⟩
        refine ⟨_, rfl, ?_⟩
        replace HB := tBs HB hb
        (try clear hb)
        (try clear hb2)
        (try clear hk)
        (try clear hi)
        refine hK.out _ _ ⟨(tcl HB hw523_0), (tcl HB hw523_1), (tcl HB hw523_2), (tcl HB hw523_3), (tcl HB hw523_4), (tcl HB hw523_5), (tcl HB hw524_0), (tcl HB hw524_1), (tcl HB hw524_2), (tcl HB hw524_3), (tcl HB hw524_4), (tcl HB hw524_5)⟩ (fun hHeld => ?_)
        clear hK K
        refine tnm (some 25) ?_
        refine tpu 9 (some 26) #[true, true, true, true, true, true, true, true, true, true] ?_
        refine done_ (done_of HT_.out (by kernel_rfl)) ?_
        try go_wp2
        go_ret
        exact ⟨by first | rfl | (simp [errW_none, errW_some] <;> rfl) | (simp [*, errW_none, errW_some] <;> rfl), zb⟩
      ·rw [if_neg c6] at H
       exact absurd H (by simp)
     ·rw [if_neg c5] at H
      exact absurd H (by simp)
    ·rw [if_neg c4] at H
     have c4b0 : decide (x5_1 < (l0.length : Int)) = false := decide_eq_false c4
     clear c4
     obtain rfl := Option.some.inj H
     go_wp2
     go_ret
     exact ⟨by first | rfl | (simp [errW_none, errW_some] <;> rfl) | (simp [*, errW_none, errW_some] <;> rfl), zb⟩
 ·rw [if_neg c3] at H
  have c3b0 : ((l0.length : Int) == (l1.length : Int)) = false := beq_eq_false_iff_ne.mpr c3
  have c3b1 : ((l0.length : Int) != (l1.length : Int)) = true := bne_iff_ne.mpr c3
  have c3b2 : (l0.length == l1.length) = false := by first | simpa using c3 | (simp at c3 ⊢; omega)
  obtain rfl := Option.some.inj H
  go_enter Tryd.func20, Tryd.ntmps20
  go_wp2
  go_ret
  exact ⟨by first | rfl | (simp [errW_none, errW_some] <;> rfl) | (simp [*, errW_none, errW_some] <;> rfl), zb⟩

end Go.Proofs.YtfjkpdhldeopaaaDoor.G

namespace Go.Proofs.YtfjkpdhldeopaaaDoor.G
open Go.RowKit Go.Proofs.YtfjkpdhldeopaaaDoorW.PrintWords Go.Proofs.YtfjkpdhldeopaaaDoorW.PrintLast Go.Proofs.YtfjkpdhldeopaaaDoorW.PrintMore
set_option linter.unusedVariables false
set_option linter.unusedSimpArgs false
set_option maxHeartbeats 4000000 in
set_option maxRecDepth 100000 in
theorem impl_LogCut.callsB [ErrA] (k : Nat) (A : Option Addr) (c : Nat) (l : List S28) (o : Int) (r1 : List S28) (r2 : Bool) (w : World) (hE : ErrOk [1] w) (hr : Kd.C k28 w A l.length l) (hc : l.length ≤ c) (h : impl_LogCut.f k l o = some (r1, r2)) :
    Calls Tryd.prog 19 #[.slice A l.length c, .int .i64 o] w fun e w' => ∃ v : Value, e = .returned (.tuple #[v, .bool r2]) ∧ Kd.S kB 28 w' w.heap.size (fun _ => True) v r1 ∧ Below w.heap.size w w' := by
  have HE := Aside0.mk hE
  have HR := Aside0.mk hr
  have HC := Aside0.mk hc
  have HS := Aside0.mk (St.nil w)
  have hu := Tryd.underlying28
  clear hE hr hc
  unfold impl_LogCut.f at h
  obtain ⟨vb, hvb, h⟩ := Option.bind_eq_some_iff.mp h
  have HV := Aside0.mk hvb
  have HH := Aside0.mk h
  clear h hvb
  go_enter Tryd.func19, Tryd.ntmps19
  cases vb
  · have hj := HH.out
    simp only [Bool.false_eq_true, if_false] at hj
    cases hj
    go_wp2_with (first | (go_at_call 38; with_reducible refine (impl_LogValid.calls k A c l _ _ (Kd.C_below HR.out HS.out.below) HC.out HV.out).mono ?_; rintro e W ⟨rfl, hb⟩; replace HS := Aside0.mk (HS.out.call hb); clear hb))
    refine bodyPost_ret (results_list (rs := [.tmp 4, .tmp 5]) rfl (by simp) (.tmp (.tmp .nil))) rfl ?_
    exact ⟨_, by rfl, Kd.S_nil _ _ _ _ _, HS.out.below⟩
  · have HJ := Aside0.mk (show impl_LogCut.l0 k o [] l (l.length : Int) 0 = some (r1, r2) by have := HH.out; simpa using this)
    clear HH
    go_wp2_with (first | (go_at_call 38; with_reducible refine (impl_LogValid.calls k A c l _ _ (Kd.C_below HR.out HS.out.below) HC.out HV.out).mono ?_; rintro e W ⟨rfl, hb⟩; replace HS := Aside0.mk (HS.out.call hb); clear hb) | ((with_reducible refine gate_dst (N := 15) rfl ?_); refine Kd.S_lit kB (w0 := _) _ 28 rfl (N := 15) rfl (xs := []) (inner := []) (ok := fun _ => True) (okp := fun _ => True) (by first | (go_simp; done) | (go_simp; rfl)) (Reps.none _ _) (fun _ _ => trivial) trivial (Below.refl _ _) (Nat.le_refl _) (by simp) ?_; intro v W hs hb hg hat; clear hg hat; obtain ⟨V, q, rfl⟩ := Kd.S_slice hs; replace HS := Aside0.mk (HS.out.pushS hs hb); clear hs hb))
    go_loopg [6, 18] k (fun kq v6 v18 wr => ∃ (x : Int) (xs : List S28) (V : Option Addr) (q : Nat) (P : Nat → Prop), v6 = .slice V xs.length q ∧ v18 = .int .i64 x ∧ Aside0 (impl_LogCut.l0 kq o xs l (l.length : Int) x = some (r1, r2)) ∧ Aside0 (kq ≤ k) ∧ Aside0 (St w wr [rowS kB 28 w.heap.size (.slice V xs.length q) xs P]))
    case atStart => exact ⟨0, [], _, _, _, rfl, rfl, HJ, ⟨Nat.le_refl _⟩, HS⟩
    case round =>
      clear HJ HS
      obtain ⟨x, xs, V, q, P, rfl, rfl, HA, HK, HS⟩ := hrel
      cases gk with
      | zero => exact absurd HA.out (by simp [impl_LogCut.l0])
      | succ k2 =>
        have H := HA.out
        clear HA
        simp only [impl_LogCut.l0] at H
        by_cases c1 : x < (l.length : Int)
        · rw [if_pos c1] at H
          by_cases c2 : 0 ≤ x
          case neg => rw [if_neg c2] at H; cases H
          rw [if_pos c2, if_pos c1] at H
          obtain ⟨ad, A5, c5, e_, x0, x1, x2, x3, x4, x5, hl5, hi5⟩ := at_T28 HR.out x c2 c1
          cases e_
          replace x0 := (HS.out.below.cell (World.block_lt_of_cell? w _ x0)).trans x0
          replace x1 := (HS.out.below.cell (World.block_lt_of_cell? w _ x1)).trans x1
          replace x2 := (HS.out.below.cell (World.block_lt_of_cell? w _ x2)).trans x2
          replace x3 := (HS.out.below.cell (World.block_lt_of_cell? w _ x3)).trans x3
          replace x4 := (HS.out.below.cell (World.block_lt_of_cell? w _ x4)).trans x4
          replace x5 := (HS.out.below.cell (World.block_lt_of_cell? w _ x5)).trans x5
          have HI := Aside0.mk (And.intro hl5 hi5)
          clear hl5 hi5
          replace c1 := eq_true c1
          replace c2 := eq_true c2
          obtain ⟨la, hla, H⟩ := Option.bind_eq_some_iff.mp H
          have HLA := Aside0.mk hla
          clear hla
          by_cases c3 : la < o
          · rw [if_pos c3] at H
            obtain ⟨⟨t0, t1, t2, t3, t4, t5⟩, hcp, H⟩ := Option.bind_eq_some_iff.mp H
            by_cases c5_ : xs.length < 2513169434916
            case neg => simp only [if_neg c5_] at H; cases H
            simp only [if_pos c5_] at H
            obtain ⟨zs, hzs⟩ : ∃ zs, zs = xs ++ [(⟨t0, t1, t2, t3, t4, t5⟩ : S28)] := ⟨_, rfl⟩
            rw [← hzs] at H
            have HZ := Aside0.mk hzs
            clear hzs
            have HQ := Aside0.mk hcp
            have HP := Aside0.mk c5_
            have HA := Aside0.mk H
            clear hcp c5_ H
            replace c3 := eq_true c3
            go_wp2_with (first | ((with_reducible refine gate_dst (N := 8) rfl ?_); refine w_box HS rfl rfl (by go_simp; try rfl) ?_; intro g8 W h_; clear HS; have HS := h_; clear h_; obtain ⟨f0, f1⟩ := HS.out.cells 0 rfl) | ((with_reducible refine gate_store (t := 28) (p := 8) rfl ?_); refine w_put rfl rfl (by go_simp; try rfl) (HS.out.set6 0 rfl _ _ _ _ _ _) ?_; intro W h_; clear HS f0 f1; have HS := h_; clear h_; obtain ⟨f0, f1⟩ := HS.out.cells 0 rfl) | (go_at_call 39; with_reducible refine (impl_Batch_last.calls (rd_T28 l x).f0 (rd_T28 l x).f1 (rd_T28 l x).f2 (rd_T28 l x).f3 (rd_T28 l x).f4 _ _ (rd_T28 l x).f5 _ _ (Kd.C_below HI.out.2 HS.out.below) HI.out.1 HLA.out).mono ?_; rintro e W ⟨rfl, hb⟩; replace HS := Aside0.mk (HS.out.call hb); clear hb f0 f1; obtain ⟨f0, f1⟩ := HS.out.cells 0 rfl) | (go_at_call 40; with_reducible refine (impl_Batch_copyOf.calls k2 (rd_T28 l x).f0 (rd_T28 l x).f1 (rd_T28 l x).f2 (rd_T28 l x).f3 (rd_T28 l x).f4 _ _ (rd_T28 l x).f5 t0 t1 t2 t3 t4 t5 _ (Kd.C_below HI.out.2 HS.out.below) HI.out.1 HQ.out).mono ?_; rintro e W ⟨v, rfl, hs, hb⟩; obtain ⟨Y, y, rfl⟩ := Kd.S_slice hs; replace HS := Aside0.mk (HS.out.pushM (kB_mkM W _ (fun _ => True) (⟨t0, t1, t2, t3, t4, t5⟩ : S28) hs) hb); clear hs hb f0 f1) | ((with_reducible refine gate_dst (N := 31) rfl ?_); refine S_app1 (d := kB) (e := 28) ((HS.out.front 2 rfl).front 1 rfl) rfl (.tmp 27) (.tmp 30) 40 (.agg #[.bool false, .bool false, .int .i64 0, .int .i64 0, .int .i64 0, .slice none 0 0]) 56 rfl Tryd.underlying40 (by kernel_rfl) rfl (by decide) (by omega) rfl rfl (by have := HP.out; omega) ?_; intro v1 W P1 HS3; rw [← HZ.out] at HS3; obtain ⟨V1, q1, rfl⟩ := Kd.S_slice (HS3.getS 0 rfl); replace HS := Aside0.mk HS3; clear HS3))
            go_roundg k2
            case measure => omega
            case rel => exact ⟨_, zs, V1, q1, P1, rfl, rfl, HA, ⟨by have := HK.out; omega⟩, ⟨HS.out.head1⟩⟩
          · rw [if_neg c3] at H
            replace c3 := eq_false c3
            obtain ⟨fi, hfi, H⟩ := Option.bind_eq_some_iff.mp H
            have HFI := Aside0.mk hfi
            clear hfi
            by_cases c4 : fi < o
            · rw [if_pos c4] at H
              replace c4 := eq_true c4
              obtain ⟨⟨t0, t1, t2, t3, t4, t5, u0, u1, u2, u3, u4, u5, ok⟩, hcp, H⟩ := Option.bind_eq_some_iff.mp H
              have HQ := Aside0.mk hcp
              clear hcp
              cases ok
              · simp only [Bool.false_eq_true, if_false] at H
                cases H
                go_wp2_with (first | ((with_reducible refine gate_dst (N := 8) rfl ?_); refine w_box HS rfl rfl (by go_simp; try rfl) ?_; intro g8 W h_; clear HS; have HS := h_; clear h_; obtain ⟨f0, f1⟩ := HS.out.cells 0 rfl) | ((with_reducible refine gate_store (t := 28) (p := 8) rfl ?_); refine w_put rfl rfl (by go_simp; try rfl) (HS.out.set6 0 rfl _ _ _ _ _ _) ?_; intro W h_; clear HS f0 f1; have HS := h_; clear h_; obtain ⟨f0, f1⟩ := HS.out.cells 0 rfl) | (go_at_call 39; with_reducible refine (impl_Batch_last.calls (rd_T28 l x).f0 (rd_T28 l x).f1 (rd_T28 l x).f2 (rd_T28 l x).f3 (rd_T28 l x).f4 _ _ (rd_T28 l x).f5 _ _ (Kd.C_below HI.out.2 HS.out.below) HI.out.1 HLA.out).mono ?_; rintro e W ⟨rfl, hb⟩; replace HS := Aside0.mk (HS.out.call hb); clear hb f0 f1; obtain ⟨f0, f1⟩ := HS.out.cells 0 rfl) | (go_at_call 41; with_reducible refine (impl_Batch_first.calls (rd_T28 l x).f0 (rd_T28 l x).f1 (rd_T28 l x).f2 (rd_T28 l x).f3 (rd_T28 l x).f4 _ _ (rd_T28 l x).f5 _ _ (Kd.C_below HI.out.2 HS.out.below) HI.out.1 HFI.out).mono ?_; rintro e W ⟨rfl, hb⟩; replace HS := Aside0.mk (HS.out.call hb); clear hb f0 f1; obtain ⟨f0, f1⟩ := HS.out.cells 0 rfl) | (go_at_call 15; with_reducible refine (impl_BatchCut.callsS k2 (rd_T28 l x).f0 (rd_T28 l x).f1 (rd_T28 l x).f2 (rd_T28 l x).f3 (rd_T28 l x).f4 _ _ (rd_T28 l x).f5 o t0 t1 t2 t3 t4 t5 u0 u1 u2 u3 u4 u5 false _ (ErrOk.below HE.out HS.out.below) (Kd.C_below HI.out.2 HS.out.below) HI.out.1 HQ.out).mono ?_; rintro e W ⟨v, u, P2, rfl, hs, hs2, hb⟩; obtain ⟨Y, y, rfl⟩ := Kd.S_slice hs; obtain ⟨U, p, rfl⟩ := Kd.S_slice hs2; replace HS := Aside0.mk (HS.out.pushM (kB_mkM W _ P2 (⟨t0, t1, t2, t3, t4, t5⟩ : S28) hs) hb); clear hs hs2 hb f0 f1) | ((with_reducible refine gate_dst (N := 9) rfl ?_); refine w_box HS rfl rfl (by go_simp; try rfl) ?_; intro g9 W h_; clear HS; have HS := h_; clear h_) | ((with_reducible refine gate_dst (N := 10) rfl ?_); refine w_box HS rfl rfl (by go_simp; try rfl) ?_; intro g10 W h_; clear HS; have HS := h_; clear h_; obtain ⟨f0, f1⟩ := HS.out.cells 1 rfl; obtain ⟨p0, p1⟩ := HS.out.cells 0 rfl) | ((with_reducible refine gate_store (t := 28) (p := 9) rfl ?_); refine w_put rfl rfl (by go_simp; try rfl) (HS.out.set6 1 rfl _ _ _ _ _ _) ?_; intro W h_; clear HS f0 f1 p0 p1; have HS := h_; clear h_; (try simp only [List.set_cons_zero, List.set_cons_succ] at HS); obtain ⟨f0, f1⟩ := HS.out.cells 1 rfl; obtain ⟨p0, p1⟩ := HS.out.cells 0 rfl) | ((with_reducible refine gate_store (t := 28) (p := 10) rfl ?_); refine w_put rfl rfl (by go_simp; try rfl) (HS.out.set6 0 rfl _ _ _ _ _ _) ?_; intro W h_; clear HS f0 f1 p0 p1; have HS := h_; clear h_; (try simp only [List.set_cons_zero, List.set_cons_succ] at HS); obtain ⟨f0, f1⟩ := HS.out.cells 1 rfl; obtain ⟨p0, p1⟩ := HS.out.cells 0 rfl))
                refine bodyPost_ret (results_list (rs := [.tmp 4, .tmp 5]) rfl (by simp) (.tmp (.tmp .nil))) rfl ?_
                exact ⟨_, by rfl, Kd.S_nil _ _ _ _ _, HS.out.below⟩
              · simp only [if_true] at H
                by_cases c5_ : xs.length < 2513169434916
                case neg => simp only [if_neg c5_] at H; cases H
                simp only [if_pos c5_] at H
                obtain ⟨zs, hzs⟩ : ∃ zs, zs = xs ++ [(⟨t0, t1, t2, t3, t4, t5⟩ : S28)] := ⟨_, rfl⟩
                rw [← hzs] at H
                have HZ := Aside0.mk hzs
                clear hzs
                have HP := Aside0.mk c5_
                have HA := Aside0.mk H
                clear c5_ H
                go_wp2_with (first | ((with_reducible refine gate_dst (N := 8) rfl ?_); refine w_box HS rfl rfl (by go_simp; try rfl) ?_; intro g8 W h_; clear HS; have HS := h_; clear h_; obtain ⟨f0, f1⟩ := HS.out.cells 0 rfl) | ((with_reducible refine gate_store (t := 28) (p := 8) rfl ?_); refine w_put rfl rfl (by go_simp; try rfl) (HS.out.set6 0 rfl _ _ _ _ _ _) ?_; intro W h_; clear HS f0 f1; have HS := h_; clear h_; obtain ⟨f0, f1⟩ := HS.out.cells 0 rfl) | (go_at_call 39; with_reducible refine (impl_Batch_last.calls (rd_T28 l x).f0 (rd_T28 l x).f1 (rd_T28 l x).f2 (rd_T28 l x).f3 (rd_T28 l x).f4 _ _ (rd_T28 l x).f5 _ _ (Kd.C_below HI.out.2 HS.out.below) HI.out.1 HLA.out).mono ?_; rintro e W ⟨rfl, hb⟩; replace HS := Aside0.mk (HS.out.call hb); clear hb f0 f1; obtain ⟨f0, f1⟩ := HS.out.cells 0 rfl) | (go_at_call 41; with_reducible refine (impl_Batch_first.calls (rd_T28 l x).f0 (rd_T28 l x).f1 (rd_T28 l x).f2 (rd_T28 l x).f3 (rd_T28 l x).f4 _ _ (rd_T28 l x).f5 _ _ (Kd.C_below HI.out.2 HS.out.below) HI.out.1 HFI.out).mono ?_; rintro e W ⟨rfl, hb⟩; replace HS := Aside0.mk (HS.out.call hb); clear hb f0 f1; obtain ⟨f0, f1⟩ := HS.out.cells 0 rfl) | (go_at_call 15; with_reducible refine (impl_BatchCut.callsS k2 (rd_T28 l x).f0 (rd_T28 l x).f1 (rd_T28 l x).f2 (rd_T28 l x).f3 (rd_T28 l x).f4 _ _ (rd_T28 l x).f5 o t0 t1 t2 t3 t4 t5 u0 u1 u2 u3 u4 u5 true _ (ErrOk.below HE.out HS.out.below) (Kd.C_below HI.out.2 HS.out.below) HI.out.1 HQ.out).mono ?_; rintro e W ⟨v, u, P2, rfl, hs, hs2, hb⟩; obtain ⟨Y, y, rfl⟩ := Kd.S_slice hs; obtain ⟨U, p, rfl⟩ := Kd.S_slice hs2; replace HS := Aside0.mk (HS.out.pushM (kB_mkM W _ P2 (⟨t0, t1, t2, t3, t4, t5⟩ : S28) hs) hb); clear hs hs2 hb f0 f1) | ((with_reducible refine gate_dst (N := 9) rfl ?_); refine w_box HS rfl rfl (by go_simp; try rfl) ?_; intro g9 W h_; clear HS; have HS := h_; clear h_) | ((with_reducible refine gate_dst (N := 10) rfl ?_); refine w_box HS rfl rfl (by go_simp; try rfl) ?_; intro g10 W h_; clear HS; have HS := h_; clear h_; obtain ⟨f0, f1⟩ := HS.out.cells 1 rfl; obtain ⟨p0, p1⟩ := HS.out.cells 0 rfl) | ((with_reducible refine gate_store (t := 28) (p := 9) rfl ?_); refine w_put rfl rfl (by go_simp; try rfl) (HS.out.set6 1 rfl _ _ _ _ _ _) ?_; intro W h_; clear HS f0 f1 p0 p1; have HS := h_; clear h_; (try simp only [List.set_cons_zero, List.set_cons_succ] at HS); obtain ⟨f0, f1⟩ := HS.out.cells 1 rfl; obtain ⟨p0, p1⟩ := HS.out.cells 0 rfl) | ((with_reducible refine gate_store (t := 28) (p := 10) rfl ?_); refine w_put rfl rfl (by go_simp; try rfl) (HS.out.set6 0 rfl _ _ _ _ _ _) ?_; intro W h_; clear HS f0 f1 p0 p1; have HS := h_; clear h_; (try simp only [List.set_cons_zero, List.set_cons_succ] at HS); obtain ⟨f0, f1⟩ := HS.out.cells 1 rfl; obtain ⟨p0, p1⟩ := HS.out.cells 0 rfl) | ((with_reducible refine gate_dst (N := 49) rfl ?_); refine S_app1 (d := kB) (e := 28) ((HS.out.front 4 rfl).front 3 rfl) rfl (.tmp 46) (.tmp 48) 40 (.agg #[.bool false, .bool false, .int .i64 0, .int .i64 0, .int .i64 0, .slice none 0 0]) 56 rfl Tryd.underlying40 (by kernel_rfl) rfl (by decide) (by omega) rfl rfl (by have := HP.out; omega) ?_; intro v1 W P1 HS3; rw [← HZ.out] at HS3; obtain ⟨V1, q1, rfl⟩ := Kd.S_slice (HS3.getS 0 rfl); replace HS := Aside0.mk HS3; clear HS3))
                go_roundg k2
                case measure => omega
                case rel => exact ⟨_, zs, V1, q1, P1, rfl, rfl, HA, ⟨by have := HK.out; omega⟩, ⟨HS.out.head1⟩⟩
            · rw [if_neg c4] at H
              replace c4 := eq_false c4
              have HA := Aside0.mk H
              clear H
              go_wp2_with (first | ((with_reducible refine gate_dst (N := 8) rfl ?_); refine w_box HS rfl rfl (by go_simp; try rfl) ?_; intro g8 W h_; clear HS; have HS := h_; clear h_; obtain ⟨f0, f1⟩ := HS.out.cells 0 rfl) | ((with_reducible refine gate_store (t := 28) (p := 8) rfl ?_); refine w_put rfl rfl (by go_simp; try rfl) (HS.out.set6 0 rfl _ _ _ _ _ _) ?_; intro W h_; clear HS f0 f1; have HS := h_; clear h_; obtain ⟨f0, f1⟩ := HS.out.cells 0 rfl) | (go_at_call 39; with_reducible refine (impl_Batch_last.calls (rd_T28 l x).f0 (rd_T28 l x).f1 (rd_T28 l x).f2 (rd_T28 l x).f3 (rd_T28 l x).f4 _ _ (rd_T28 l x).f5 _ _ (Kd.C_below HI.out.2 HS.out.below) HI.out.1 HLA.out).mono ?_; rintro e W ⟨rfl, hb⟩; replace HS := Aside0.mk (HS.out.call hb); clear hb f0 f1; obtain ⟨f0, f1⟩ := HS.out.cells 0 rfl) | (go_at_call 41; with_reducible refine (impl_Batch_first.calls (rd_T28 l x).f0 (rd_T28 l x).f1 (rd_T28 l x).f2 (rd_T28 l x).f3 (rd_T28 l x).f4 _ _ (rd_T28 l x).f5 _ _ (Kd.C_below HI.out.2 HS.out.below) HI.out.1 HFI.out).mono ?_; rintro e W ⟨rfl, hb⟩; replace HS := Aside0.mk (HS.out.call hb); clear hb f0 f1; obtain ⟨f0, f1⟩ := HS.out.cells 0 rfl))
              go_roundg k2
              case measure => omega
              case rel => exact ⟨_, xs, V, q, P, rfl, rfl, HA, ⟨by have := HK.out; omega⟩, ⟨HS.out.drop1⟩⟩
        · rw [if_neg c1] at H
          cases H
          have c0 : decide (x < (l.length : Int)) = false := decide_eq_false c1
          go_wp2
          refine bodyPost_ret (results_list (rs := [.tmp 4, .tmp 5]) rfl (by simp) (.tmp (.tmp .nil))) rfl ?_
          exact ⟨_, by rfl, Kd.S_mono (HS.out.getS 0 rfl) (fun _ _ => trivial), HS.out.below⟩
end Go.Proofs.YtfjkpdhldeopaaaDoor.G

namespace Go.Proofs.YtfjkpdhldeopaaaDoor.G
open Go.RowKit Go.Proofs.YtfjkpdhldeopaaaDoorW.PrintWords Go.Proofs.YtfjkpdhldeopaaaDoorW.PrintLast Go.Proofs.YtfjkpdhldeopaaaDoorW.PrintMore
attribute [local go_sem] max2_int min2_int max_two min_two max_three min_three max_four min_four   -- for this text's walks alone
set_option linter.unusedVariables false
set_option linter.unusedSimpArgs false

def laws_szIntS.f (l0 : List Int) (a1 : Int) : Option (Int) := if (wrap64 (a1 - (l0.length : Int))) < 0 then (some (-1)) else (some (wrap64 (a1 - (l0.length : Int))))
set_option maxHeartbeats 8000000 in
set_option maxRecDepth 100000 in
theorem laws_szIntS.calls (A0 : Option Addr) (c0 : Nat) (l0 : List Int) (a1 : Int) (r : Int) (w : World) (hr0 : Kd.C (Kd.int .i64) w A0 l0.length l0) (hc0 : l0.length ≤ c0) (h : laws_szIntS.f l0 a1 = some r) :
  Calls Tryd.prog 55 #[.slice A0 l0.length c0, .int .i64 a1] w fun e w' => e = .returned (.int .i64 r) ∧ Drawn0 w w' := by
 have HR0 := Aside0.mk hr0
 have HC0 := Aside0.mk hc0
 clear hr0 hc0
 have H : (if (wrap64 (a1 - (l0.length : Int))) < 0 then (some (-1)) else (some (wrap64 (a1 - (l0.length : Int))))) = some r := h
 clear h
 by_cases c3 : (wrap64 (a1 - (l0.length : Int))) < 0
 ·rw [if_pos c3] at H
  have c3b0 : decide ((wrap64 (a1 - (l0.length : Int))) < 0) = true := decide_eq_true c3
  clear c3
  obtain rfl := Option.some.inj H
  go_enter Tryd.func55, Tryd.ntmps55
  go_wp2
  go_ret
  exact ⟨by first | rfl | (simp; done) | (simp [*]; done), by repeat (first | exact Drawn0.refl _ | apply Drawn0.step)⟩
 ·rw [if_neg c3] at H
  have c3b0 : decide ((wrap64 (a1 - (l0.length : Int))) < 0) = false := decide_eq_false c3
  clear c3
  obtain rfl := Option.some.inj H
  go_enter Tryd.func55, Tryd.ntmps55
  go_wp2
  go_ret
  exact ⟨by first | rfl | (simp; done) | (simp [*]; done), by repeat (first | exact Drawn0.refl _ | apply Drawn0.step)⟩

def laws_szRecord.f (a0_0 : Int) (a0_1 : Int) (a0_2 : Bool) (l0_3 : List Int) (a0_4 : Bool) (l0_5 : List Int) (a1 : Int) : Option (Int) := (laws_szIntS.f l0_3 a1).bind fun t102 => (if t102 < 0 then (some (-1)) else ((laws_szIntS.f l0_5 t102).bind fun t103 => (if t103 < 0 then (some (-1)) else (some t103))))
set_option maxHeartbeats 8000000 in
set_option maxRecDepth 100000 in
theorem laws_szRecord.calls (a0_0 : Int) (a0_1 : Int) (a0_2 : Bool) (A0_3 : Option Addr) (c0_3 : Nat) (l0_3 : List Int) (a0_4 : Bool) (A0_5 : Option Addr) (c0_5 : Nat) (l0_5 : List Int) (a1 : Int) (r : Int) (w : World) (hr0_3 : Kd.C (Kd.int .i64) w A0_3 l0_3.length l0_3) (hc0_3 : l0_3.length ≤ c0_3) (hr0_5 : Kd.C (Kd.int .i64) w A0_5 l0_5.length l0_5) (hc0_5 : l0_5.length ≤ c0_5) (h : laws_szRecord.f a0_0 a0_1 a0_2 l0_3 a0_4 l0_5 a1 = some r) :
  Calls Tryd.prog 42 #[.agg #[.int .i64 a0_0, .int .i64 a0_1, .bool a0_2, .slice A0_3 l0_3.length c0_3, .bool a0_4, .slice A0_5 l0_5.length c0_5], .int .i64 a1] w fun e w' => e = .returned (.int .i64 r) ∧ Below w.heap.size w w' := by
 have hu71 := Tryd.underlying71
 have HR0_3 := Aside0.mk hr0_3
 have HC0_3 := Aside0.mk hc0_3
 clear hr0_3 hc0_3
 have HR0_5 := Aside0.mk hr0_5
 have HC0_5 := Aside0.mk hc0_5
 clear hr0_5 hc0_5
 have HB := Aside0.mk (Below.refl w.heap.size w)
 have H : ((laws_szIntS.f l0_3 a1).bind fun t102 => (if t102 < 0 then (some (-1)) else ((laws_szIntS.f l0_5 t102).bind fun t103 => (if t103 < 0 then (some (-1)) else (some t103))))) = some r := h
 clear h
 replace H := tbe H
 obtain ⟨t102, A3, H⟩ := H
 by_cases c4 : t102 < 0
 ·rw [if_pos c4] at H
  have c4b0 : decide (t102 < 0) = true := decide_eq_true c4
  clear c4
  obtain rfl := Option.some.inj H
  go_enter Tryd.func42, Tryd.ntmps42
  go_wp2_with (first | ((with_reducible refine gate_dst (N := 2) rfl ?_); refine box_event ?hg (N := 2) ?hd (cs := #[.int .i64 a0_0, .int .i64 a0_1, .bool a0_2, .slice A0_3 l0_3.length c0_3, .bool a0_4, .slice A0_5 l0_5.length c0_5]) (t := 71) ?hr ?_; (case hd => rfl); (case hg => rfl); (case hr => first | (go_simp; done) | (go_simp; rfl)); intro gb101 hg w5 hbox hb; have BK101 := Aside0.mk (hbox); have GW101 := tge HB hg; have GE101 := tge HB hg; replace HB := tBs HB hb; clear hb hbox hg; obtain ⟨hcz6_0, hcz6_1, hcz6_2, hcz6_3, hcz6_4, hcz6_5, hfz6_0, hfz6_1, hfz6_2, hfz6_3, hfz6_4, hfz6_5⟩ := cells6 BK101.out) | ((with_reducible refine gate_callee (f := 55) rfl ?_); refine goesL_ (some 8) rfl rfl Tryd.func55 (by kernel_rfl) rfl #[.slice A0_3 l0_3.length c0_3, .int .i64 a1] rfl tq ?_; (with_reducible refine (laws_szIntS.calls _ _ l0_3 a1 t102 _ ?side1 ?side2 A3.out).mono ?_); (case side1 => exact tC (Kd.C_below HR0_3.out HB.out)); (case side2 => exact HC0_3.out); rintro e w' ⟨rfl, ⟨nd, rfl⟩⟩; refine ⟨_, rfl, ?_⟩))
  go_ret
  exact ⟨by first | rfl | (simp [errW_none, errW_some] <;> rfl) | (simp [*, errW_none, errW_some] <;> rfl), zb⟩
 ·rw [if_neg c4] at H
  have c4b0 : decide (t102 < 0) = false := decide_eq_false c4
  clear c4
  replace H := tbe H
  obtain ⟨t103, A7, H⟩ := H
  by_cases c8 : t103 < 0
  ·rw [if_pos c8] at H
   have c8b0 : decide (t103 < 0) = true := decide_eq_true c8
   clear c8
   obtain rfl := Option.some.inj H
   go_enter Tryd.func42, Tryd.ntmps42
   go_wp2_with (first | ((with_reducible refine gate_dst (N := 2) rfl ?_); refine box_event ?hg (N := 2) ?hd (cs := #[.int .i64 a0_0, .int .i64 a0_1, .bool a0_2, .slice A0_3 l0_3.length c0_3, .bool a0_4, .slice A0_5 l0_5.length c0_5]) (t := 71) ?hr ?_; (case hd => rfl); (case hg => rfl); (case hr => first | (go_simp; done) | (go_simp; rfl)); intro gb101 hg w9 hbox hb; have BK101 := Aside0.mk (hbox); have GW101 := tge HB hg; have GE101 := tge HB hg; replace HB := tBs HB hb; clear hb hbox hg; obtain ⟨hcz10_0, hcz10_1, hcz10_2, hcz10_3, hcz10_4, hcz10_5, hfz10_0, hfz10_1, hfz10_2, hfz10_3, hfz10_4, hfz10_5⟩ := cells6 BK101.out) | ((with_reducible refine gate_callee (f := 55) rfl ?_); refine goesL_ (some 8) rfl rfl Tryd.func55 (by kernel_rfl) rfl #[.slice A0_3 l0_3.length c0_3, .int .i64 a1] rfl tq ?_; (with_reducible refine (laws_szIntS.calls _ _ l0_3 a1 t102 _ ?side1 ?side2 A3.out).mono ?_); (case side1 => exact tC (Kd.C_below HR0_3.out HB.out)); (case side2 => exact HC0_3.out); rintro e w' ⟨rfl, ⟨nd, rfl⟩⟩; refine ⟨_, rfl, ?_⟩) | ((with_reducible refine gate_callee (f := 55) rfl ?_); refine goesL_ (some 14) rfl rfl Tryd.func55 (by kernel_rfl) rfl #[.slice A0_5 l0_5.length c0_5, .int .i64 t102] rfl tq ?_; (with_reducible refine (laws_szIntS.calls _ _ l0_5 t102 t103 _ ?side1 ?side2 A7.out).mono ?_); (case side1 => exact tC (Kd.C_below HR0_5.out zb)); (case side2 => exact HC0_5.out); rintro e w' ⟨rfl, ⟨nd, rfl⟩⟩; refine ⟨_, rfl, ?_⟩))
   go_ret
   exact ⟨by first | rfl | (simp [errW_none, errW_some] <;> rfl) | (simp [*, errW_none, errW_some] <;> rfl), zb⟩
  ·rw [if_neg c8] at H
   have c8b0 : decide (t103 < 0) = false := decide_eq_false c8
   clear c8
   obtain rfl := Option.some.inj H
   go_enter Tryd.func42, Tryd.ntmps42
   go_wp2_with (first | ((with_reducible refine gate_dst (N := 2) rfl ?_); refine box_event ?hg (N := 2) ?hd (cs := #[.int .i64 a0_0, .int .i64 a0_1, .bool a0_2, .slice A0_3 l0_3.length c0_3, .bool a0_4, .slice A0_5 l0_5.length c0_5]) (t := 71) ?hr ?_; (case hd => rfl); (case hg => rfl); (case hr => first | (go_simp; done) | (go_simp; rfl)); intro gb101 hg w11 hbox hb; have BK101 := Aside0.mk (hbox); have GW101 := tge HB hg; have GE101 := tge HB hg; replace HB := tBs HB hb; clear hb hbox hg; obtain ⟨hcz12_0, hcz12_1, hcz12_2, hcz12_3, hcz12_4, hcz12_5, hfz12_0, hfz12_1, hfz12_2, hfz12_3, hfz12_4, hfz12_5⟩ := cells6 BK101.out) | ((with_reducible refine gate_callee (f := 55) rfl ?_); refine goesL_ (some 8) rfl rfl Tryd.func55 (by kernel_rfl) rfl #[.slice A0_3 l0_3.length c0_3, .int .i64 a1] rfl tq ?_; (with_reducible refine (laws_szIntS.calls _ _ l0_3 a1 t102 _ ?side1 ?side2 A3.out).mono ?_); (case side1 => exact tC (Kd.C_below HR0_3.out HB.out)); (case side2 => exact HC0_3.out); rintro e w' ⟨rfl, ⟨nd, rfl⟩⟩; refine ⟨_, rfl, ?_⟩) | ((with_reducible refine gate_callee (f := 55) rfl ?_); refine goesL_ (some 14) rfl rfl Tryd.func55 (by kernel_rfl) rfl #[.slice A0_5 l0_5.length c0_5, .int .i64 t102] rfl tq ?_; (with_reducible refine (laws_szIntS.calls _ _ l0_5 t102 t103 _ ?side1 ?side2 A7.out).mono ?_); (case side1 => exact tC (Kd.C_below HR0_5.out zb)); (case side2 => exact HC0_5.out); rintro e w' ⟨rfl, ⟨nd, rfl⟩⟩; refine ⟨_, rfl, ?_⟩))
   go_ret
   exact ⟨by first | rfl | (simp [errW_none, errW_some] <;> rfl) | (simp [*, errW_none, errW_some] <;> rfl), zb⟩

def laws_szRecordS.l0 : Nat → List (S71) → Int → Int → Option (Int)
 | 0, _, _, _ => none
 | k + 1, x0, x1, x5 => if x5 < (x0.length : Int) then (if 0 ≤ x5 then ((laws_szRecord.f ((rd_T71 x0 x5).f0) ((rd_T71 x0 x5).f1) ((rd_T71 x0 x5).f2) ((rd_T71 x0 x5).f3) ((rd_T71 x0 x5).f4) ((rd_T71 x0 x5).f5) x1).bind fun t105 => (if t105 < 0 then (some (-1)) else (laws_szRecordS.l0 k x0 t105 (wrap64 (x5 + 1))))) else (none)) else (some x1)
def laws_szRecordS.f (k : Nat) (l0 : List (S71)) (a1 : Int) : Option (Int) := if (wrap64 (a1 - (l0.length : Int))) < 0 then (some (-1)) else (laws_szRecordS.l0 k l0 (wrap64 (a1 - (l0.length : Int))) 0)
set_option maxHeartbeats 8000000 in
set_option maxRecDepth 100000 in
theorem laws_szRecordS.calls (k : Nat) (A0 : Option Addr) (c0 : Nat) (l0 : List (S71)) (a1 : Int) (r : Int) (w : World) (hr0 : Kd.C k71 w A0 l0.length l0) (hc0 : l0.length ≤ c0) (h : laws_szRecordS.f k l0 a1 = some r) :
  Calls Tryd.prog 25 #[.slice A0 l0.length c0, .int .i64 a1] w fun e w' => e = .returned (.int .i64 r) ∧ Below w.heap.size w w' := by
 have hu71 := Tryd.underlying71
 have HR0 := Aside0.mk hr0
 have HC0 := Aside0.mk hc0
 clear hr0 hc0
 have HB := Aside0.mk (Below.refl w.heap.size w)
 have H : (if (wrap64 (a1 - (l0.length : Int))) < 0 then (some (-1)) else (laws_szRecordS.l0 k l0 (wrap64 (a1 - (l0.length : Int))) 0)) = some r := h
 clear h
 by_cases c3 : (wrap64 (a1 - (l0.length : Int))) < 0
 ·rw [if_pos c3] at H
  have c3b0 : decide ((wrap64 (a1 - (l0.length : Int))) < 0) = true := decide_eq_true c3
  clear c3
  obtain rfl := Option.some.inj H
  go_enter Tryd.func25, Tryd.ntmps25
  go_wp2
  go_ret
  exact ⟨by first | rfl | (simp [errW_none, errW_some] <;> rfl) | (simp [*, errW_none, errW_some] <;> rfl), zb⟩
 ·rw [if_neg c3] at H
  have c3b0 : decide ((wrap64 (a1 - (l0.length : Int))) < 0) = false := decide_eq_false c3
  clear c3
  have H' := Aside0.mk H
  clear H
  go_enter Tryd.func25, Tryd.ntmps25
  go_wp2
  go_loopg [1, 5] k (fun kq v1 v5 w' => ∃ (x1_1 : Int) (x5_1 : Int), v1 = .int .i64 x1_1 ∧ v5 = .int .i64 x5_1 ∧ Aside0 (laws_szRecordS.l0 kq l0 x1_1 x5_1 = some r) ∧ Aside0 (kq ≤ k) ∧ Aside0 (Below w.heap.size w w'))
  case atStart => exact ⟨(wrap64 (a1 - (l0.length : Int))), (0), tr, tr, H', ⟨Nat.le_refl _⟩, ⟨zb⟩⟩
  case round =>
   clear H'
   try clear c3; try clear c3b0
   obtain ⟨x1_1, x5_1, rfl, rfl, HA, HK1, HB⟩ := hrel
   cases gk with
   | zero => exact absurd HA.out (by simp [laws_szRecordS.l0])
   | succ k1 =>
    have H := HA.out
    clear HA
    simp only [laws_szRecordS.l0] at H
    by_cases c4 : x5_1 < (l0.length : Int)
    ·rw [if_pos c4] at H
     have c4b0 : decide (x5_1 < (l0.length : Int)) = true := decide_eq_true c4
     clear c4
     by_cases c5 : 0 ≤ x5_1
     ·rw [if_pos c5] at H
      have c5b0 : decide (0 ≤ x5_1) = true := decide_eq_true c5
      clear c5
      replace H := tbe H
      obtain ⟨t105, A6, H⟩ := H
      by_cases c7 : t105 < 0
      ·rw [if_pos c7] at H
       have c7b0 : decide (t105 < 0) = true := decide_eq_true c7
       clear c7
       obtain rfl := Option.some.inj H
       have p104 : 0 ≤ (x5_1 : Int) := td
       have q104 : x5_1 < (l0.length : Int) := td
       obtain ⟨ad104, A104_3, c104_3, A104_5, c104_5, e104, hx104_0, hx104_1, hx104_2, hx104_3, hx104_4, hx104_5, hl104_3, hi104_3, hl104_5, hi104_5⟩ := at_T71 HR0.out x5_1 p104 q104
       cases e104
       replace hx104_0 := tcl HB hx104_0
       replace hx104_1 := tcl HB hx104_1
       replace hx104_2 := tcl HB hx104_2
       replace hx104_3 := tcl HB hx104_3
       replace hx104_4 := tcl HB hx104_4
       replace hx104_5 := tcl HB hx104_5
       have HR104_3 := Aside0.mk hi104_3
       have HC104_3 := Aside0.mk hl104_3
       clear hi104_3 hl104_3
       have HR104_5 := Aside0.mk hi104_5
       have HC104_5 := Aside0.mk hl104_5
       clear hi104_5 hl104_5
       replace p104 := eq_true p104
       replace q104 := eq_true q104
       go_wp2_with (first | ((with_reducible refine gate_callee (f := 42) rfl ?_); refine goesL_ (some 23) rfl rfl Tryd.func42 (by kernel_rfl) rfl #[.agg #[.int .i64 ((rd_T71 l0 x5_1).f0), .int .i64 ((rd_T71 l0 x5_1).f1), .bool ((rd_T71 l0 x5_1).f2), .slice A104_3 ((rd_T71 l0 x5_1).f3).length c104_3, .bool ((rd_T71 l0 x5_1).f4), .slice A104_5 ((rd_T71 l0 x5_1).f5).length c104_5], .int .i64 x1_1] rfl tq ?_; (with_reducible refine (laws_szRecord.calls ((rd_T71 l0 x5_1).f0) ((rd_T71 l0 x5_1).f1) ((rd_T71 l0 x5_1).f2) _ _ ((rd_T71 l0 x5_1).f3) ((rd_T71 l0 x5_1).f4) _ _ ((rd_T71 l0 x5_1).f5) x1_1 t105 _ ?side1 ?side2 ?side3 ?side4 A6.out).mono ?_); (case side1 => exact tC (Kd.C_below HR104_3.out HB.out)); (case side2 => exact HC104_3.out); (case side3 => exact tC (Kd.C_below HR104_5.out HB.out)); (case side4 => exact HC104_5.out); rintro e w8 ⟨rfl, hb⟩; refine ⟨_, rfl, ?_⟩; replace HB := tBs HB hb; (try clear hb); (try clear hb2); (try clear hk); (try clear hi)))
       go_ret
       exact ⟨by first | rfl | (simp [errW_none, errW_some] <;> rfl) | (simp [*, errW_none, errW_some] <;> rfl), zb⟩
      ·rw [if_neg c7] at H
       have c7b0 : decide (t105 < 0) = false := decide_eq_false c7
       clear c7
       have H' := Aside0.mk H
       clear H
       have p104 : 0 ≤ (x5_1 : Int) := td
       have q104 : x5_1 < (l0.length : Int) := td
       obtain ⟨ad104, A104_3, c104_3, A104_5, c104_5, e104, hx104_0, hx104_1, hx104_2, hx104_3, hx104_4, hx104_5, hl104_3, hi104_3, hl104_5, hi104_5⟩ := at_T71 HR0.out x5_1 p104 q104
       cases e104
       replace hx104_0 := tcl HB hx104_0
       replace hx104_1 := tcl HB hx104_1
       replace hx104_2 := tcl HB hx104_2
       replace hx104_3 := tcl HB hx104_3
       replace hx104_4 := tcl HB hx104_4
       replace hx104_5 := tcl HB hx104_5
       have HR104_3 := Aside0.mk hi104_3
       have HC104_3 := Aside0.mk hl104_3
       clear hi104_3 hl104_3
       have HR104_5 := Aside0.mk hi104_5
       have HC104_5 := Aside0.mk hl104_5
       clear hi104_5 hl104_5
       replace p104 := eq_true p104
       replace q104 := eq_true q104
       go_wp2_with (first | ((with_reducible refine gate_callee (f := 42) rfl ?_); refine goesL_ (some 23) rfl rfl Tryd.func42 (by kernel_rfl) rfl #[.agg #[.int .i64 ((rd_T71 l0 x5_1).f0), .int .i64 ((rd_T71 l0 x5_1).f1), .bool ((rd_T71 l0 x5_1).f2), .slice A104_3 ((rd_T71 l0 x5_1).f3).length c104_3, .bool ((rd_T71 l0 x5_1).f4), .slice A104_5 ((rd_T71 l0 x5_1).f5).length c104_5], .int .i64 x1_1] rfl tq ?_; (with_reducible refine (laws_szRecord.calls ((rd_T71 l0 x5_1).f0) ((rd_T71 l0 x5_1).f1) ((rd_T71 l0 x5_1).f2) _ _ ((rd_T71 l0 x5_1).f3) ((rd_T71 l0 x5_1).f4) _ _ ((rd_T71 l0 x5_1).f5) x1_1 t105 _ ?side1 ?side2 ?side3 ?side4 A6.out).mono ?_); (case side1 => exact tC (Kd.C_below HR104_3.out HB.out)); (case side2 => exact HC104_3.out); (case side3 => exact tC (Kd.C_below HR104_5.out HB.out)); (case side4 => exact HC104_5.out); rintro e w9 ⟨rfl, hb⟩; refine ⟨_, rfl, ?_⟩; replace HB := tBs HB hb; (try clear hb); (try clear hb2); (try clear hk); (try clear hi)))
       go_roundg k1
       case measure => have := HK1.out; omega
       case rel => exact ⟨(t105), (wrap64 (x5_1 + 1)), tr, tr, H', ⟨by have := HK1.out; omega⟩, ⟨zb⟩⟩
     ·rw [if_neg c5] at H
      exact absurd H (by simp)
    ·rw [if_neg c4] at H
     have c4b0 : decide (x5_1 < (l0.length : Int)) = false := decide_eq_false c4
     clear c4
     obtain rfl := Option.some.inj H
     go_wp2
     go_ret
     exact ⟨by first | rfl | (simp [errW_none, errW_some] <;> rfl) | (simp [*, errW_none, errW_some] <;> rfl), zb⟩

def laws_szBatch.f (k : Nat) (a0_0 : Bool) (a0_1 : Bool) (a0_2 : Int) (a0_3 : Int) (a0_4 : Int) (l0_5 : List (S71)) (a1 : Int) : Option (Int) := (laws_szRecordS.f k l0_5 a1).bind fun t107 => (if t107 < 0 then (some (-1)) else (some t107))
set_option maxHeartbeats 8000000 in
set_option maxRecDepth 100000 in
theorem laws_szBatch.calls (k : Nat) (a0_0 : Bool) (a0_1 : Bool) (a0_2 : Int) (a0_3 : Int) (a0_4 : Int) (A0_5 : Option Addr) (c0_5 : Nat) (l0_5 : List (S71)) (a1 : Int) (r : Int) (w : World) (hr0_5 : Kd.C k71 w A0_5 l0_5.length l0_5) (hc0_5 : l0_5.length ≤ c0_5) (h : laws_szBatch.f k a0_0 a0_1 a0_2 a0_3 a0_4 l0_5 a1 = some r) :
  Calls Tryd.prog 7 #[.agg #[.bool a0_0, .bool a0_1, .int .i64 a0_2, .int .i64 a0_3, .int .i64 a0_4, .slice A0_5 l0_5.length c0_5], .int .i64 a1] w fun e w' => e = .returned (.int .i64 r) ∧ Below w.heap.size w w' := by
 have hu24 := Tryd.underlying24
 have HR0_5 := Aside0.mk hr0_5
 have HC0_5 := Aside0.mk hc0_5
 clear hr0_5 hc0_5
 have HB := Aside0.mk (Below.refl w.heap.size w)
 have H : ((laws_szRecordS.f k l0_5 a1).bind fun t107 => (if t107 < 0 then (some (-1)) else (some t107))) = some r := h
 clear h
 replace H := tbe H
 obtain ⟨t107, A3, H⟩ := H
 by_cases c4 : t107 < 0
 ·rw [if_pos c4] at H
  have c4b0 : decide (t107 < 0) = true := decide_eq_true c4
  clear c4
  obtain rfl := Option.some.inj H
  go_enter Tryd.func7, Tryd.ntmps7
  go_wp2_with (first | ((with_reducible refine gate_dst (N := 2) rfl ?_); refine box_event ?hg (N := 2) ?hd (cs := #[.bool a0_0, .bool a0_1, .int .i64 a0_2, .int .i64 a0_3, .int .i64 a0_4, .slice A0_5 l0_5.length c0_5]) (t := 24) ?hr ?_; (case hd => rfl); (case hg => rfl); (case hr => first | (go_simp; done) | (go_simp; rfl)); intro gb106 hg w5 hbox hb; have BK106 := Aside0.mk (hbox); have GW106 := tge HB hg; have GE106 := tge HB hg; replace HB := tBs HB hb; clear hb hbox hg; obtain ⟨hcz6_0, hcz6_1, hcz6_2, hcz6_3, hcz6_4, hcz6_5, hfz6_0, hfz6_1, hfz6_2, hfz6_3, hfz6_4, hfz6_5⟩ := cells6 BK106.out) | ((with_reducible refine gate_callee (f := 25) rfl ?_); refine goesL_ (some 8) rfl rfl Tryd.func25 (by kernel_rfl) rfl #[.slice A0_5 l0_5.length c0_5, .int .i64 a1] rfl tq ?_; (with_reducible refine (laws_szRecordS.calls k _ _ l0_5 a1 t107 _ ?side1 ?side2 A3.out).mono ?_); (case side1 => exact tC (Kd.C_below HR0_5.out HB.out)); (case side2 => exact HC0_5.out); rintro e w7 ⟨rfl, hb⟩; refine ⟨_, rfl, ?_⟩; replace BK106 := tBb BK106 hb; replace HB := tBs HB hb; (try clear hb); (try clear hb2); (try clear hk); (try clear hi)))
  go_ret
  exact ⟨by first | rfl | (simp [errW_none, errW_some] <;> rfl) | (simp [*, errW_none, errW_some] <;> rfl), zb⟩
 ·rw [if_neg c4] at H
  have c4b0 : decide (t107 < 0) = false := decide_eq_false c4
  clear c4
  obtain rfl := Option.some.inj H
  go_enter Tryd.func7, Tryd.ntmps7
  go_wp2_with (first | ((with_reducible refine gate_dst (N := 2) rfl ?_); refine box_event ?hg (N := 2) ?hd (cs := #[.bool a0_0, .bool a0_1, .int .i64 a0_2, .int .i64 a0_3, .int .i64 a0_4, .slice A0_5 l0_5.length c0_5]) (t := 24) ?hr ?_; (case hd => rfl); (case hg => rfl); (case hr => first | (go_simp; done) | (go_simp; rfl)); intro gb106 hg w8 hbox hb; have BK106 := Aside0.mk (hbox); have GW106 := tge HB hg; have GE106 := tge HB hg; replace HB := tBs HB hb; clear hb hbox hg; obtain ⟨hcz9_0, hcz9_1, hcz9_2, hcz9_3, hcz9_4, hcz9_5, hfz9_0, hfz9_1, hfz9_2, hfz9_3, hfz9_4, hfz9_5⟩ := cells6 BK106.out) | ((with_reducible refine gate_callee (f := 25) rfl ?_); refine goesL_ (some 8) rfl rfl Tryd.func25 (by kernel_rfl) rfl #[.slice A0_5 l0_5.length c0_5, .int .i64 a1] rfl tq ?_; (with_reducible refine (laws_szRecordS.calls k _ _ l0_5 a1 t107 _ ?side1 ?side2 A3.out).mono ?_); (case side1 => exact tC (Kd.C_below HR0_5.out HB.out)); (case side2 => exact HC0_5.out); rintro e w10 ⟨rfl, hb⟩; refine ⟨_, rfl, ?_⟩; replace BK106 := tBb BK106 hb; replace HB := tBs HB hb; (try clear hb); (try clear hb2); (try clear hk); (try clear hi)))
  go_ret
  exact ⟨by first | rfl | (simp [errW_none, errW_some] <;> rfl) | (simp [*, errW_none, errW_some] <;> rfl), zb⟩

end Go.Proofs.YtfjkpdhldeopaaaDoor.G

namespace Go.Proofs.YtfjkpdhldeopaaaDoor.G
open Go.RowKit Go.Proofs.YtfjkpdhldeopaaaDoorW.PrintWords Go.Proofs.YtfjkpdhldeopaaaDoorW.PrintLast Go.Proofs.YtfjkpdhldeopaaaDoorW.PrintMore
attribute [local go_sem] max2_int min2_int max_two min_two max_three min_three max_four min_four   -- for this text's walks alone
set_option linter.unusedVariables false
set_option linter.unusedSimpArgs false

def laws_szBatchS.l0 : Nat → List (S24) → Int → Int → Option (Int)
 | 0, _, _, _ => none
 | k + 1, x0, x1, x5 => if x5 < (x0.length : Int) then (if 0 ≤ x5 then ((laws_szBatch.f k ((rd_T24 x0 x5).f0) ((rd_T24 x0 x5).f1) ((rd_T24 x0 x5).f2) ((rd_T24 x0 x5).f3) ((rd_T24 x0 x5).f4) ((rd_T24 x0 x5).f5) x1).bind fun t397 => (if t397 < 0 then (some (-1)) else (laws_szBatchS.l0 k x0 t397 (wrap64 (x5 + 1))))) else (none)) else (some x1)
def laws_szBatchS.f (k : Nat) (l0 : List (S24)) (a1 : Int) : Option (Int) := if (wrap64 (a1 - (l0.length : Int))) < 0 then (some (-1)) else (laws_szBatchS.l0 k l0 (wrap64 (a1 - (l0.length : Int))) 0)
set_option maxHeartbeats 8000000 in
set_option maxRecDepth 100000 in
theorem laws_szBatchS.calls (k : Nat) (A0 : Option Addr) (c0 : Nat) (l0 : List (S24)) (a1 : Int) (r : Int) (w : World) (hr0 : Kd.C k24 w A0 l0.length l0) (hc0 : l0.length ≤ c0) (h : laws_szBatchS.f k l0 a1 = some r) :
  Calls Tryd.prog 16 #[.slice A0 l0.length c0, .int .i64 a1] w fun e w' => e = .returned (.int .i64 r) ∧ Below w.heap.size w w' := by
 have hu24 := Tryd.underlying24
 have HR0 := Aside0.mk hr0
 have HC0 := Aside0.mk hc0
 clear hr0 hc0
 have HB := Aside0.mk (Below.refl w.heap.size w)
 have H : (if (wrap64 (a1 - (l0.length : Int))) < 0 then (some (-1)) else (laws_szBatchS.l0 k l0 (wrap64 (a1 - (l0.length : Int))) 0)) = some r := h
 clear h
 by_cases c3 : (wrap64 (a1 - (l0.length : Int))) < 0
 ·rw [if_pos c3] at H
  have c3b0 : decide ((wrap64 (a1 - (l0.length : Int))) < 0) = true := decide_eq_true c3
  clear c3
  obtain rfl := Option.some.inj H
  go_enter Tryd.func16, Tryd.ntmps16
  go_wp2
  go_ret
  exact ⟨by first | rfl | (simp [errW_none, errW_some] <;> rfl) | (simp [*, errW_none, errW_some] <;> rfl), zb⟩
 ·rw [if_neg c3] at H
  have c3b0 : decide ((wrap64 (a1 - (l0.length : Int))) < 0) = false := decide_eq_false c3
  clear c3
  have H' := Aside0.mk H
  clear H
  go_enter Tryd.func16, Tryd.ntmps16
  go_wp2
  go_loopg [1, 5] k (fun kq v1 v5 w' => ∃ (x1_1 : Int) (x5_1 : Int), v1 = .int .i64 x1_1 ∧ v5 = .int .i64 x5_1 ∧ Aside0 (laws_szBatchS.l0 kq l0 x1_1 x5_1 = some r) ∧ Aside0 (kq ≤ k) ∧ Aside0 (Below w.heap.size w w'))
  case atStart => exact ⟨(wrap64 (a1 - (l0.length : Int))), (0), tr, tr, H', ⟨Nat.le_refl _⟩, ⟨zb⟩⟩
  case round =>
   clear H'
   try clear c3; try clear c3b0
   obtain ⟨x1_1, x5_1, rfl, rfl, HA, HK1, HB⟩ := hrel
   cases gk with
   | zero => exact absurd HA.out (by simp [laws_szBatchS.l0])
   | succ k1 =>
    have H := HA.out
    clear HA
    simp only [laws_szBatchS.l0] at H
    by_cases c4 : x5_1 < (l0.length : Int)
    ·rw [if_pos c4] at H
     have c4b0 : decide (x5_1 < (l0.length : Int)) = true := decide_eq_true c4
     clear c4
     by_cases c5 : 0 ≤ x5_1
     ·rw [if_pos c5] at H
      have c5b0 : decide (0 ≤ x5_1) = true := decide_eq_true c5
      clear c5
      replace H := tbe H
      obtain ⟨t397, A6, H⟩ := H
      by_cases c7 : t397 < 0
      ·rw [if_pos c7] at H
       have c7b0 : decide (t397 < 0) = true := decide_eq_true c7
       clear c7
       obtain rfl := Option.some.inj H
       have p396 : 0 ≤ (x5_1 : Int) := td
       have q396 : x5_1 < (l0.length : Int) := td
       obtain ⟨ad396, A396_5, c396_5, e396, hx396_0, hx396_1, hx396_2, hx396_3, hx396_4, hx396_5, hl396_5, hi396_5⟩ := at_T24 HR0.out x5_1 p396 q396
       cases e396
       replace hx396_0 := tcl HB hx396_0
       replace hx396_1 := tcl HB hx396_1
       replace hx396_2 := tcl HB hx396_2
       replace hx396_3 := tcl HB hx396_3
       replace hx396_4 := tcl HB hx396_4
       replace hx396_5 := tcl HB hx396_5
       have HR396_5 := Aside0.mk hi396_5
       have HC396_5 := Aside0.mk hl396_5
       clear hi396_5 hl396_5
       replace p396 := eq_true p396
       replace q396 := eq_true q396
       go_wp2_with (first | ((with_reducible refine gate_callee (f := 7) rfl ?_); refine goesL_ (some 23) rfl rfl Tryd.func7 (by kernel_rfl) rfl #[.agg #[.bool ((rd_T24 l0 x5_1).f0), .bool ((rd_T24 l0 x5_1).f1), .int .i64 ((rd_T24 l0 x5_1).f2), .int .i64 ((rd_T24 l0 x5_1).f3), .int .i64 ((rd_T24 l0 x5_1).f4), .slice A396_5 ((rd_T24 l0 x5_1).f5).length c396_5], .int .i64 x1_1] rfl tq ?_; (with_reducible refine (laws_szBatch.calls k1 ((rd_T24 l0 x5_1).f0) ((rd_T24 l0 x5_1).f1) ((rd_T24 l0 x5_1).f2) ((rd_T24 l0 x5_1).f3) ((rd_T24 l0 x5_1).f4) _ _ ((rd_T24 l0 x5_1).f5) x1_1 t397 _ ?side1 ?side2 A6.out).mono ?_); (case side1 => exact tC (Kd.C_below HR396_5.out HB.out)); (case side2 => exact HC396_5.out); rintro e w8 ⟨rfl, hb⟩; refine ⟨_, rfl, ?_⟩; replace HB := tBs HB hb; (try clear hb); (try clear hb2); (try clear hk); (try clear hi)))
       go_ret
       exact ⟨by first | rfl | (simp [errW_none, errW_some] <;> rfl) | (simp [*, errW_none, errW_some] <;> rfl), zb⟩
      ·rw [if_neg c7] at H
       have c7b0 : decide (t397 < 0) = false := decide_eq_false c7
       clear c7
       have H' := Aside0.mk H
       clear H
       have p396 : 0 ≤ (x5_1 : Int) := td
       have q396 : x5_1 < (l0.length : Int) := td
       obtain ⟨ad396, A396_5, c396_5, e396, hx396_0, hx396_1, hx396_2, hx396_3, hx396_4, hx396_5, hl396_5, hi396_5⟩ := at_T24 HR0.out x5_1 p396 q396
       cases e396
       replace hx396_0 := tcl HB hx396_0
       replace hx396_1 := tcl HB hx396_1
       replace hx396_2 := tcl HB hx396_2
       replace hx396_3 := tcl HB hx396_3
       replace hx396_4 := tcl HB hx396_4
       replace hx396_5 := tcl HB hx396_5
       have HR396_5 := Aside0.mk hi396_5
       have HC396_5 := Aside0.mk hl396_5
       clear hi396_5 hl396_5
       replace p396 := eq_true p396
       replace q396 := eq_true q396
       go_wp2_with (first | ((with_reducible refine gate_callee (f := 7) rfl ?_); refine goesL_ (some 23) rfl rfl Tryd.func7 (by kernel_rfl) rfl #[.agg #[.bool ((rd_T24 l0 x5_1).f0), .bool ((rd_T24 l0 x5_1).f1), .int .i64 ((rd_T24 l0 x5_1).f2), .int .i64 ((rd_T24 l0 x5_1).f3), .int .i64 ((rd_T24 l0 x5_1).f4), .slice A396_5 ((rd_T24 l0 x5_1).f5).length c396_5], .int .i64 x1_1] rfl tq ?_; (with_reducible refine (laws_szBatch.calls k1 ((rd_T24 l0 x5_1).f0) ((rd_T24 l0 x5_1).f1) ((rd_T24 l0 x5_1).f2) ((rd_T24 l0 x5_1).f3) ((rd_T24 l0 x5_1).f4) _ _ ((rd_T24 l0 x5_1).f5) x1_1 t397 _ ?side1 ?side2 A6.out).mono ?_); (case side1 => exact tC (Kd.C_below HR396_5.out HB.out)); (case side2 => exact HC396_5.out); rintro e w9 ⟨rfl, hb⟩; refine ⟨_, rfl, ?_⟩; replace HB := tBs HB hb; (try clear hb); (try clear hb2); (try clear hk); (try clear hi)))
       go_roundg k1
       case measure => have := HK1.out; omega
       case rel => exact ⟨(t397), (wrap64 (x5_1 + 1)), tr, tr, H', ⟨by have := HK1.out; omega⟩, ⟨zb⟩⟩
     ·rw [if_neg c5] at H
      exact absurd H (by simp)
    ·rw [if_neg c4] at H
     have c4b0 : decide (x5_1 < (l0.length : Int)) = false := decide_eq_false c4
     clear c4
     obtain rfl := Option.some.inj H
     go_wp2
     go_ret
     exact ⟨by first | rfl | (simp [errW_none, errW_some] <;> rfl) | (simp [*, errW_none, errW_some] <;> rfl), zb⟩

end Go.Proofs.YtfjkpdhldeopaaaDoor.G

namespace Go.Proofs.YtfjkpdhldeopaaaDoor.G
open Go.RowKit Go.Proofs.YtfjkpdhldeopaaaDoorW.PrintWords Go.Proofs.YtfjkpdhldeopaaaDoorW.PrintLast Go.Proofs.YtfjkpdhldeopaaaDoorW.PrintMore
set_option linter.unusedVariables false
set_option linter.unusedSimpArgs false
theorem heldBatchS_A (k : Nat) (u : Value) (l : List S28) (a : Int) (b : Nat) (P : Nat → Prop) (W : World) (hs : Kd.S kB 28 W b P u (mkBats a l)) (h : laws_heldBatchS.f k (mkBats a l) a = some (a + (totB l : Int))) :
    Calls Tryd.prog 22 #[u, .int .i64 a] W fun e w' => e = .returned (.int .i64 (a + (totB l : Int))) ∧ Below W.heap.size W w' := by
  obtain ⟨A, c, rfl⟩ := Kd.S_slice hs
  have h2 := Kd.S_reads' hs
  exact (laws_heldBatchS.calls k A c (mkBats a l) a _ W (kB_C h2.2.2) h2.2.1 h).mono fun e w' ⟨he, hd⟩ => ⟨he, hd.below⟩
structure FactsLC (k : Nat) (l : List S24) (o : Int) (t : Int) (x0 g : List S28) (ok : Bool) : Prop where
  s0 : laws_szBatchS.f k l 1048576 = some t
  t0 : 0 ≤ t
  c0 : laws_toBatchS.f k l = some x0
  sj : spec_LogCut.f k x0 o = some (g, ok)
  ij : impl_LogCut.f k x0 o = some (g, ok)
  eg : laws_eqBatchS.f k g g = some true
  ex : laws_eqBatchS.f k x0 x0 = some true
  hg : laws_heldBatchS.f k (mkBats 1 g) 1 = some (1 + (totB g : Int))
  bx : (totB x0 : Int) ≤ 2900000000000000000
  bg : (totB g : Int) ≤ 2900000000000000000
set_option maxRecDepth 1000000 in
set_option maxHeartbeats 4000000 in
theorem exLC [ErrA] (k : Nat) (A : Option Addr) (c : Nat) (l : List S24) (o : Int) (t : Int) (x0 g : List S28) (ok : Bool) (w : World) (hE : ErrOk [1] w) (hr : Kd.C k24 w A l.length l) (hc : l.length ≤ c) (h : FactsLC k l o t x0 g ok) :
    Calls Tryd.prog 5 #[.slice A l.length c, .int .i64 o] w fun e w' => e = .returned (.bool true) ∧ Below w.heap.size w w' := by
  have HE := Aside0.mk hE
  have HR := Aside0.mk hr
  have HC := Aside0.mk hc
  have HF := Aside0.mk h
  have t0 := h.t0
  have HS := Aside0.mk (St.nil w)
  clear hE hr hc h
  go_enter Tryd.func5, Tryd.ntmps5
  go_upto_region 6 with (first
    | (go_at_call 16; with_reducible refine (laws_szBatchS.calls k A c l 1048576 t _ (Kd.C_below HR.out HS.out.below) HC.out HF.out.s0).mono ?_; rintro e W ⟨rfl, hb⟩; replace HS := Aside0.mk (HS.out.call hb); clear hb; skip)
    | (go_at_call 18; with_reducible refine (laws_toBatchS.callsB k A c l x0 _ (Kd.C_below HR.out HS.out.below) HC.out HF.out.c0).mono ?_; rintro e W ⟨v, rfl, hs, hb⟩; obtain ⟨V_rY, q_rY, rfl⟩ := Kd.S_slice hs; replace HS := Aside0.mk (HS.out.pushS hs hb); clear hs hb)
    | (go_at_call 17; with_reducible refine (spec_LogCut.calls k _ _ x0 o g ok _ (kB_C (HS.out.getC 0 rfl)) (HS.out.getL 0 rfl) HF.out.sj).mono ?_; rintro e W ⟨v, rfl, hs, hb⟩; obtain ⟨V_rW, q_rW, rfl⟩ := Kd.R_slice hs; replace HS := Aside0.mk (HS.out.pushR hs hb); clear hs hb))
  go_upto_region 10 with (first
    | (go_at_call 18; with_reducible refine (laws_toBatchS.callsB k A c l x0 _ (Kd.C_below HR.out HS.out.below) HC.out HF.out.c0).mono ?_; rintro e W ⟨v, rfl, hs, hb⟩; obtain ⟨V_rX, q_rX, rfl⟩ := Kd.S_slice hs; replace HS := Aside0.mk (HS.out.pushS hs hb); clear hs hb)
    | (go_at_call 19; with_reducible refine (impl_LogCut.callsB k _ _ x0 o g ok _ (ErrOk.below HE.out HS.out.below) (kB_C (HS.out.getC 0 rfl)) (HS.out.getL 0 rfl) HF.out.ij).mono ?_; rintro e W ⟨v, rfl, hs, hb⟩; obtain ⟨V_rG, q_rG, rfl⟩ := Kd.S_slice hs; replace HS := Aside0.mk (HS.out.pushS hs hb); clear hs hb)
    | (go_at_call 20; with_reducible refine (laws_eqBatchS.calls k _ _ g _ _ g true _ (kB_C (HS.out.getC 0 rfl)) (HS.out.getL 0 rfl) (HS.out.getRC 2 rfl) (HS.out.getRL 2 rfl) HF.out.eg).mono ?_; rintro e W ⟨rfl, hb⟩; replace HS := Aside0.mk (HS.out.call hb); clear hb; skip))
  go_upto_region 24 with (first
    | (go_at_call 18; with_reducible refine (laws_toBatchS.callsB k A c l x0 _ (Kd.C_below HR.out HS.out.below) HC.out HF.out.c0).mono ?_; rintro e W ⟨v, rfl, hs, hb⟩; obtain ⟨V_rU, q_rU, rfl⟩ := Kd.S_slice hs; replace HS := Aside0.mk (HS.out.pushS hs hb); clear hs hb)
    | (go_at_call 20; with_reducible refine (laws_eqBatchS.calls k _ _ x0 _ _ x0 true _ (kB_C (HS.out.getC 2 rfl)) (HS.out.getL 2 rfl) (kB_C (HS.out.getC 0 rfl)) (HS.out.getL 0 rfl) HF.out.ex).mono ?_; rintro e W ⟨rfl, hb⟩; replace HS := Aside0.mk (HS.out.call hb); clear hb; skip)
    | (go_at_call 21; with_reducible refine (laws_markBatchS.callsA _ _ x0 1 w _ HS.out.below (HS.out.getS 2 rfl) (by omega) (by have := HF.out.bx; omega)).mono ?_; rintro e W ⟨rfl, hs, hb, hk⟩; replace HS := Aside0.mk (HS.out.markS 2 rfl hs hb hk); clear hs hb hk; (try simp only [List.set_cons_zero, List.set_cons_succ] at HS); skip)
    | (go_at_call 20; with_reducible refine (laws_eqBatchS.calls k _ _ g _ _ g true _ (kB_C (HS.out.getC 1 rfl)) (HS.out.getL 1 rfl) (HS.out.getRC 3 rfl) (HS.out.getRL 3 rfl) HF.out.eg).mono ?_; rintro e W ⟨rfl, hb⟩; replace HS := Aside0.mk (HS.out.call hb); clear hb; skip)
    | (go_at_call 21; with_reducible refine (laws_markBatchS.callsA _ _ g 1 w _ HS.out.below (HS.out.getS 1 rfl) (by omega) (by have := HF.out.bg; omega)).mono ?_; rintro e W ⟨rfl, hs, hb, hk⟩; replace HS := Aside0.mk (HS.out.markS 1 rfl hs hb hk); clear hs hb hk; (try simp only [List.set_cons_zero, List.set_cons_succ] at HS); skip)
    | (go_at_call 22; with_reducible refine (heldBatchS_A k _ g 1 _ _ _ (HS.out.getS 1 rfl) HF.out.hg).mono ?_; rintro e W ⟨rfl, hb⟩; replace HS := Aside0.mk (HS.out.call hb); clear hb; skip))
  go_wp2_with (first
    | (go_at_call 18; with_reducible refine (laws_toBatchS.callsB k A c l x0 _ (Kd.C_below HR.out HS.out.below) HC.out HF.out.c0).mono ?_; rintro e W ⟨v, rfl, hs, hb⟩; obtain ⟨V_rT, q_rT, rfl⟩ := Kd.S_slice hs; replace HS := Aside0.mk (HS.out.pushS hs hb); clear hs hb)
    | (go_at_call 19; with_reducible refine (impl_LogCut.callsB k _ _ x0 o g ok _ (ErrOk.below HE.out HS.out.below) (kB_C (HS.out.getC 0 rfl)) (HS.out.getL 0 rfl) HF.out.ij).mono ?_; rintro e W ⟨v, rfl, hs, hb⟩; obtain ⟨V_rH, q_rH, rfl⟩ := Kd.S_slice hs; replace HS := Aside0.mk (HS.out.pushS hs hb); clear hs hb)
    | (go_at_call 20; with_reducible refine (laws_eqBatchS.calls k _ _ g _ _ g true _ (kB_C (HS.out.getC 0 rfl)) (HS.out.getL 0 rfl) (HS.out.getRC 5 rfl) (HS.out.getRL 5 rfl) HF.out.eg).mono ?_; rintro e W ⟨rfl, hb⟩; replace HS := Aside0.mk (HS.out.call hb); clear hb; skip)
    | (go_at_call 22; with_reducible refine (heldBatchS_A k _ g 1 _ _ _ (HS.out.getS 3 rfl) HF.out.hg).mono ?_; rintro e W ⟨rfl, hb⟩; replace HS := Aside0.mk (HS.out.call hb); clear hb; skip))
  go_ret
  exact ⟨rfl, HS.out.below⟩
open Classical in
noncomputable def laws_FnExactLogCut.f (k : Nat) (l : List S24) (o : Int) : Option Bool :=
  if (∃ t, laws_szBatchS.f k l 1048576 = some t ∧ t < 0) ∨ ∃ (t : Int) (x0 g : List S28) (ok : Bool), FactsLC k l o t x0 g ok then some true else none
set_option maxRecDepth 1000000 in
set_option maxHeartbeats 4000000 in
theorem laws_FnExactLogCut.calls [ErrA] (k : Nat) (A : Option Addr) (c : Nat) (l : List S24) (o : Int) (r : Bool) (w : World) (hE : ErrOk [1] w) (hr0 : Kd.C k24 w A l.length l) (hc0 : l.length ≤ c) (h : laws_FnExactLogCut.f k l o = some r) :
    Calls Tryd.prog 5 #[.slice A l.length c, .int .i64 o] w fun e w' => e = .returned (.bool r) ∧ Below w.heap.size w w' := by
  unfold laws_FnExactLogCut.f at h
  split at h
  case isFalse => cases h
  case isTrue hx =>
    cases h
    have HS := Aside0.mk (St.nil w)
    rcases hx with ⟨t, s0, t0⟩ | ⟨t, x0, g, ok, h⟩
    · have HR0 := Aside0.mk hr0
      have HF := Aside0.mk s0
      clear hr0 s0 hE
      go_enter Tryd.func5, Tryd.ntmps5
      go_wp2_with (first
        | (go_at_call 16; with_reducible refine (laws_szBatchS.calls k A c l 1048576 t _ (Kd.C_below HR0.out HS.out.below) hc0 HF.out).mono ?_; rintro e W ⟨rfl, hb⟩; replace HS := Aside0.mk (HS.out.call hb); clear hb))
      go_ret
      exact ⟨rfl, HS.out.below⟩
    · exact exLC k A c l o t x0 g ok w hE hr0 hc0 h
end Go.Proofs.YtfjkpdhldeopaaaDoor.G

namespace Go.Proofs.YtfjkpdhldeopaaaDoor.Rd
open Go.RowKit Go.Proofs.YtfjkpdhldeopaaaDoorW.PrintWords
set_option linter.unusedVariables false
section
variable {H : Type} {enc : TypeId × Value → H} {P : Program} {w : World} {base : Nat} {spare : Nat → Bool} {held : Bool}
/-- What a reading of type t gives: a value of the kind, and what is known of it. -/
def Opens (enc : TypeId × Value → H) (P : Program) (w : World) (base : Nat) (spare : Nat → Bool) (held : Bool) {α : Type} (t : TypeId) (d : Kd α) (ok : α → Prop) : Prop :=
  P.cellsOf t = d.sz ∧ ∀ fuel cs x, DataW.trod enc P w base spare held fuel t cs = some x → ∃ v, d.K w v cs ∧ ok v
theorem Opens.imp_ {α : Type} {t : TypeId} {d : Kd α} {ok ok' : α → Prop} (h : Opens enc P w base spare held t d ok) (hi : ∀ v, ok v → ok' v) : Opens enc P w base spare held t d ok' :=
  ⟨h.1, fun fuel cs x hx => by
    obtain ⟨v, hk, ho⟩ := h.2 fuel cs x hx
    exact ⟨v, hk, hi v ho⟩⟩
theorem opens_int {t : TypeId} {k : IntKind} (ht : P.underlying t = some (.int k)) (hc : P.cellsOf t = 1) : Opens enc P w base spare held t (Kd.int k) (fun n => (Lit.int k n).wf = true) := by
  refine ⟨hc, fun fuel cs x h => ?_⟩
  obtain ⟨n, rfl, _, hw⟩ := DataW.trod_int ht h
  exact ⟨n, rfl, hw⟩
theorem opens_bool {t : TypeId} (ht : P.underlying t = some .bool) (hc : P.cellsOf t = 1) : Opens enc P w base spare held t Kd.bool (fun _ => True) := by
  refine ⟨hc, fun fuel cs x h => ?_⟩
  obtain ⟨n, rfl, _⟩ := DataW.trod_bool ht h
  exact ⟨n, rfl, trivial⟩
theorem cells_len {base : Nat} {a : Addr} {n : Nat} {cs : List Value} (h : w.cells? base a n = some cs) : cs.length = n ∧ ∀ i u, cs[i]? = some u → w.cell? (a.add i) = some u := by
  unfold World.cells? at h
  split at h
  · rename_i hb
    refine ⟨by simpa using mapM_some_length h, fun i u hu => ?_⟩
    have hi : i < n := by
      have := (List.getElem?_eq_some_iff.1 hu).1
      have h2 : cs.length = n := by simpa using mapM_some_length h
      omega
    have := mapM_some_get h i i (by simp [hi])
    rw [hu] at this
    exact this
  · simp at h
theorem opens_row {α : Type} {t e : TypeId} {d : Kd α} {ok : α → Prop} (ht : P.underlying t = some (.slice e)) (hd : Opens enc P w base spare held e d ok) {fuel : Nat} {cs : List Value} {x : DataW H × List MemPlace}
    (h : DataW.trod enc P w base spare held fuel t cs = some x) : ∃ (A : Option Addr) (c : Nat) (xs : List α), cs = [.slice A xs.length c] ∧ xs.length ≤ c ∧ c ≤ maxLen ∧ d.C w A xs.length xs ∧ ∀ y ∈ xs, ok y := by
  rcases Go.Deep.open_slice ht h with ⟨rfl, _⟩ | ⟨a, len, cap, m, n, D, Pl, rfl, hb, hl, hm, hmm, _, hel⟩
  · exact ⟨none, 0, [], rfl, Nat.le_refl _, by unfold maxLen; omega, ⟨rfl, by simp, fun h0 => absurd h0 (by simp)⟩, by simp⟩
  have hlm : len ≤ m := by rw [hmm]; split <;> omega
  have hx : ∀ i, i < len → ∃ y : α, ok y ∧ ∃ c, c.length = d.sz ∧ d.K w y c ∧ ∀ j u, c[j]? = some u → w.cell? (a.add (i * d.sz + j)) = some u := by
    intro i hi
    obtain ⟨cs', h1, h2⟩ := hel i (by omega)
    obtain ⟨y, hk, ho⟩ := hd.2 _ _ _ h2
    obtain ⟨hl', hc'⟩ := cells_len h1
    refine ⟨y, ho, cs', by rw [hl', hd.1], hk, fun j u hu => ?_⟩
    have := hc' j u hu
    rw [Go.Deep.add_add, hd.1] at this
    exact this
  rcases Nat.eq_zero_or_pos len with h0 | h0
  · subst h0
    exact ⟨some a, cap, [], rfl, Nat.zero_le _, hm, ⟨rfl, by simp, fun h1 => absurd h1 (by simp)⟩, by simp⟩
  obtain ⟨y0, _⟩ := hx 0 h0
  haveI : Inhabited α := ⟨y0⟩
  obtain ⟨g, hg⟩ := Go.Deep.choose_lt hx
  have hlen : ((List.range len).map g).length = len := by simp
  refine ⟨some a, cap, (List.range len).map g, by rw [hlen], by rw [hlen]; exact hl, hm, ⟨rfl, by rw [hlen]; unfold maxLen at hm; omega, fun _ => ⟨a, rfl, fun j p hj => ?_⟩⟩, fun y hy => ?_⟩
  · have hj' : j < len := by
      have := (List.getElem?_eq_some_iff.1 hj).1
      omega
    rw [List.getElem?_map, List.getElem?_range hj'] at hj
    simp at hj
    subst hj
    obtain ⟨_, c, hc1, hc2, hc3⟩ := hg j hj'
    exact ⟨c, hc1, hc2, hc3⟩
  · obtain ⟨i, hi, rfl⟩ := List.mem_map.1 hy
    exact (hg i (List.mem_range.1 hi)).1
theorem opens_slice {α : Type} {t e : TypeId} {d : Kd α} {ok : α → Prop} (ht : P.underlying t = some (.slice e)) (hc : P.cellsOf t = 1) (hd : Opens enc P w base spare held e d ok) :
    Opens enc P w base spare held t (Kd.slice e d) (fun xs => xs.length ≤ maxLen ∧ ∀ y ∈ xs, ok y) := by
  refine ⟨hc, fun fuel cs x h => ?_⟩
  obtain ⟨A, c, xs, rfl, hl, hm, hC, ho⟩ := opens_row ht hd h
  exact ⟨xs, ⟨A, c, rfl, hl, hC⟩, Nat.le_trans hl hm, ho⟩
/-- A struct's fields, one behind the other, from a place of its cells on. -/
def OpensAt (enc : TypeId × Value → H) (P : Program) (w : World) (base : Nat) (spare : Nat → Bool) (held : Bool) {α : Type} (fs : List Field) (off : Nat) (d : Kd α) (ok : α → Prop) : Prop :=
  ∀ n (cs : List Value), cs.length = off + d.sz → (∀ f ∈ fs, ∃ x, DataW.trod enc P w base spare held n f.type ((cs.drop f.offset).take (P.cellsOf f.type)) = some x) → ∃ v, d.K w v (cs.drop off) ∧ ok v
theorem opens_last {α : Type} {f : Field} {off : Nat} {d : Kd α} {ok : α → Prop} (ho : f.offset = off) (hd : Opens enc P w base spare held f.type d ok) : OpensAt enc P w base spare held [f] off d ok := by
  intro n cs hl h
  obtain ⟨x, hx⟩ := h f (by simp)
  obtain ⟨v, hk, hok⟩ := hd.2 _ _ _ hx
  rw [ho, hd.1, List.take_of_length_le (by rw [List.length_drop]; omega)] at hk
  exact ⟨v, hk, hok⟩
theorem opens_more {α β : Type} {f : Field} {fs : List Field} {off : Nat} {d : Kd α} {d' : Kd β} {ok : α → Prop} {ok' : β → Prop} (ho : f.offset = off) (hd : Opens enc P w base spare held f.type d ok) (hr : OpensAt enc P w base spare held fs (off + d.sz) d' ok') :
    OpensAt enc P w base spare held (f :: fs) off (Kd.pair d d') (fun v => ok v.1 ∧ ok' v.2) := by
  intro n cs hl h
  have hl' : cs.length = off + (d.sz + d'.sz) := hl
  obtain ⟨x, hx⟩ := h f (by simp)
  obtain ⟨v, hk, hok⟩ := hd.2 _ _ _ hx
  obtain ⟨v', hk', hok'⟩ := hr n cs (by omega) (fun g hg => h g (by simp [hg]))
  rw [ho, hd.1] at hk
  refine ⟨(v, v'), ⟨_, _, ?_, hk, hk'⟩, hok, hok'⟩
  rw [← List.drop_drop, List.take_append_drop]
theorem opens_struct {α β : Type} {t : TypeId} {fs : Array Field} {d : Kd α} {f : β → α} {g : α → β} {ok : α → Prop} (ht : P.underlying t = some (.struct fs)) (hc : P.cellsOf t = d.sz) (hfg : ∀ a, f (g a) = a) (h : OpensAt enc P w base spare held fs.toList 0 d ok) :
    Opens enc P w base spare held t (Kd.iso d f) (fun v => ok (f v)) := by
  refine ⟨hc, fun fuel cs x hx => ?_⟩
  obtain ⟨xs, n, _, _, hl, hxs, hf⟩ := DataW.trod_struct ht hx
  obtain ⟨v, hk, hok⟩ := h n cs (by rw [hl, hc]; omega) (fun fl hfl => by
    obtain ⟨i, hi, rfl⟩ := List.getElem_of_mem hfl
    have hi' : i < fs.size := by simpa using hi
    refine ⟨xs[i]'(by omega), ?_⟩
    have := hf i fs[i] (by simp [hi'])
    rw [List.getElem?_eq_getElem (by omega)] at this
    simpa using this)
  refine ⟨g v, ?_, by show ok (f (g v)); rw [hfg]; exact hok⟩
  show d.K w (f (g v)) cs
  rw [hfg]
  simpa using hk
end
end Go.Proofs.YtfjkpdhldeopaaaDoor.Rd

namespace Go.Proofs.YtfjkpdhldeopaaaDoor.OFnExactLogCut
open Go.RowKit Go.Proofs.YtfjkpdhldeopaaaDoorW.PrintWords Go.Proofs.YtfjkpdhldeopaaaDoor.G
set_option linter.unusedVariables false
def Ok71 (x : S71) : Prop := ((Lit.int .i64 x.f0).wf = true) ∧ ((Lit.int .i64 x.f1).wf = true) ∧ (True) ∧ (x.f3.length ≤ maxLen ∧ ∀ y ∈ x.f3, (Lit.int .i64 y).wf = true) ∧ (True) ∧ (x.f5.length ≤ maxLen ∧ ∀ y ∈ x.f5, (Lit.int .i64 y).wf = true)
theorem open71 {H : Type} {enc : TypeId × Value → H} {w : World} {base : Nat} {spare : Nat → Bool} {held : Bool} : Rd.Opens enc Tryd.prog w base spare held 71 k71 Ok71 :=
  Rd.Opens.imp_ (Rd.opens_struct (g := fun p => (⟨p.1, p.2.1, p.2.2.1, p.2.2.2.1, p.2.2.2.2.1, p.2.2.2.2.2⟩ : S71)) Tryd.underlying71 (by kernel_rfl) (fun _ => rfl) (Rd.opens_more rfl (Rd.opens_int Tryd.underlying3 (by kernel_rfl)) (Rd.opens_more rfl (Rd.opens_int Tryd.underlying3 (by kernel_rfl)) (Rd.opens_more rfl (Rd.opens_bool Tryd.underlying4 (by kernel_rfl)) (Rd.opens_more rfl (Rd.opens_slice Tryd.underlying60 (by kernel_rfl) (Rd.opens_int Tryd.underlying3 (by kernel_rfl))) (Rd.opens_more rfl (Rd.opens_bool Tryd.underlying4 (by kernel_rfl)) (Rd.opens_last rfl (Rd.opens_slice Tryd.underlying60 (by kernel_rfl) (Rd.opens_int Tryd.underlying3 (by kernel_rfl)))))))))) (fun _ h => h)
def Ok24 (x : S24) : Prop := (True) ∧ (True) ∧ ((Lit.int .i64 x.f2).wf = true) ∧ ((Lit.int .i64 x.f3).wf = true) ∧ ((Lit.int .i64 x.f4).wf = true) ∧ (x.f5.length ≤ maxLen ∧ ∀ y ∈ x.f5, Ok71 y)
theorem open24 {H : Type} {enc : TypeId × Value → H} {w : World} {base : Nat} {spare : Nat → Bool} {held : Bool} : Rd.Opens enc Tryd.prog w base spare held 24 k24 Ok24 :=
  Rd.Opens.imp_ (Rd.opens_struct (g := fun p => (⟨p.1, p.2.1, p.2.2.1, p.2.2.2.1, p.2.2.2.2.1, p.2.2.2.2.2⟩ : S24)) Tryd.underlying24 (by kernel_rfl) (fun _ => rfl) (Rd.opens_more rfl (Rd.opens_bool Tryd.underlying4 (by kernel_rfl)) (Rd.opens_more rfl (Rd.opens_bool Tryd.underlying4 (by kernel_rfl)) (Rd.opens_more rfl (Rd.opens_int Tryd.underlying3 (by kernel_rfl)) (Rd.opens_more rfl (Rd.opens_int Tryd.underlying3 (by kernel_rfl)) (Rd.opens_more rfl (Rd.opens_int Tryd.underlying3 (by kernel_rfl)) (Rd.opens_last rfl (Rd.opens_slice Tryd.underlying22 (by kernel_rfl) open71)))))))) (fun _ h => h)
def Pure : Prop := ∀ (l0 : List (S24)) (a1 : Int), l0.length ≤ maxLen → (∀ y ∈ l0, Ok24 y) → (Lit.int .i64 a1).wf = true → ∃ k, laws_FnExactLogCut.f k l0 a1 = some true
end Go.Proofs.YtfjkpdhldeopaaaDoor.OFnExactLogCut

