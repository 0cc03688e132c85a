/- A text of seat YtfjkpdhldeopaaaDoor: what the law FnExactBatchCut needs of this repo's texts (by pack.py). Not trusted: Lean checks it. -/
import Derived.Test.YtfjkpdhldeopaaaDoorKFnExactBatchCut5
import Derived.OwnWalkIn
namespace Go.Proofs.YtfjkpdhldeopaaaDoor.G
open Go.RowKit Go.Proofs.YtfjkpdhldeopaaaDoorW.PrintWords Go.Proofs.YtfjkpdhldeopaaaDoorW.PrintLast Go.Proofs.YtfjkpdhldeopaaaDoorW.PrintMore
set_option linter.unusedVariables false
set_option linter.unusedSimpArgs false
set_option maxHeartbeats 4000000 in
set_option maxRecDepth 100000 in
theorem impl_Batch_cut.callsS [ErrA] (k : Nat) (a0 a1 : Bool) (a2 a3 a4 : Int) (A : Option Addr) (c : Nat) (l : List S62) (o : Int) (r1 r2 : Bool) (r3 r4 r5 : Int) (r6 : List S62) (r7 r8 : Bool) (r9 r10 r11 : Int) (r12 : List S62) (r13 : Option Int) (w : World)
    (hE : ErrOk [1] w) (hr : Kd.C k62 w A l.length l) (hc : l.length ≤ c) (h : impl_Batch_cut.f k a0 a1 a2 a3 a4 l o = some (r1, r2, r3, r4, r5, r6, r7, r8, r9, r10, r11, r12, r13)) :
    Calls Tryd.prog 34 #[BatV a0 a1 a2 a3 a4 (.slice A l.length c), .int .i64 o] w fun e w' => ∃ (v u : Value) (P : Nat → Prop), e = .returned (.tuple #[BatV r1 r2 r3 r4 r5 v, BatV r7 r8 r9 r10 r11 u, errW r13]) ∧ Kd.S k62 62 w' w.heap.size P v r6 ∧ Kd.S k62 62 w' w.heap.size (fun k => ¬ P k) u r12 ∧ Below w.heap.size w w' := by
  have HE := Aside0.mk hE
  have HR := Aside0.mk hr
  have HC := Aside0.mk hc
  have HS := Aside0.mk (St.nil w)
  have hu := Tryd.underlying28
  clear hE hr hc
  unfold impl_Batch_cut.f at h
  obtain ⟨vb, hvb, h⟩ := Option.bind_eq_some_iff.mp h
  have HV := Aside0.mk hvb
  have HH := Aside0.mk h
  clear h hvb
  go_enter Tryd.func34, Tryd.ntmps34
  go_upto_region 1 with (first | ((with_reducible refine gate_dst (N := 2) rfl ?_); refine w_box HS rfl rfl (by go_simp; try rfl) ?_; intro g2 W h_; clear HS; have HS := h_; clear h_) | ((with_reducible refine gate_dst (N := 4) rfl ?_); refine w_box HS rfl rfl (by go_simp; try rfl) ?_; intro g4 W h_; clear HS; have HS := h_; clear h_) | ((with_reducible refine gate_dst (N := 5) rfl ?_); refine w_box HS rfl rfl (by go_simp; try rfl) ?_; intro g5 W h_; clear HS; have HS := h_; clear h_))
  go_cut [18] (fun v18 wc => ∃ x : Bool, v18 = .bool x ∧ Aside0 (impl_Batch_cut.j0 k o x a0 a1 a2 a3 a4 l = some (r1, r2, r3, r4, r5, r6, r7, r8, r9, r10, r11, r12, r13)) ∧ Aside0 (St w wc [batE g5 false false 0 0 0 (.slice none 0 0), batE g4 false false 0 0 0 (.slice none 0 0), batE g2 a0 a1 a2 a3 a4 (.slice A l.length c)]))
  case first =>
    obtain ⟨f0, f1⟩ := HS.out.cells 2 rfl
    cases vb
    · have HJ := Aside0.mk (show impl_Batch_cut.j0 k o true a0 a1 a2 a3 a4 l = some (r1, r2, r3, r4, r5, r6, r7, r8, r9, r10, r11, r12, r13) by have := HH.out; simpa using this)
      clear HH
      go_wp2_with (first | (go_at_call 47; with_reducible refine (impl_BatchValid.calls k a0 a1 a2 a3 a4 _ _ l _ _ (Kd.C_below HR.out HS.out.below) HC.out HV.out).mono ?_; rintro e W ⟨rfl, hb⟩; replace HS := Aside0.mk (HS.out.call hb); clear hb f0 f1; obtain ⟨f0, f1⟩ := HS.out.cells 2 rfl))
      go_meet
      case rel => exact ⟨_, rfl, HJ, HS⟩
    · have HJ := Aside0.mk (show impl_Batch_cut.j0 k o (a2 != 255) a0 a1 a2 a3 a4 l = some (r1, r2, r3, r4, r5, r6, r7, r8, r9, r10, r11, r12, r13) by have := HH.out; simpa using this)
      clear HH
      go_wp2_with (first | (go_at_call 47; with_reducible refine (impl_BatchValid.calls k a0 a1 a2 a3 a4 _ _ l _ _ (Kd.C_below HR.out HS.out.below) HC.out HV.out).mono ?_; rintro e W ⟨rfl, hb⟩; replace HS := Aside0.mk (HS.out.call hb); clear hb f0 f1; obtain ⟨f0, f1⟩ := HS.out.cells 2 rfl))
      go_meet
      case rel => exact ⟨_, rfl, HJ, HS⟩
  case rest =>
    clear HH
    obtain ⟨x, rfl, HJ, HS⟩ := hcut
    obtain ⟨n, rfl⟩ : ∃ n, k = n + 1 := by
      cases k with
      | zero => exact absurd HJ.out (by simp [impl_Batch_cut.j0])
      | succ n => exact ⟨n, rfl⟩
    cases x
    rotate_left
    · have hj := HJ.out
      simp only [impl_Batch_cut.j0, if_true] at hj
      cases hj
      go_wp2
      have HG := Aside0.mk (ErrOk.below HE.out HS.out.below)
      refine q_begin (fun W => ErrOk [1] W ∧ St w W [batE g5 false false 0 0 0 (.slice none 0 0), batE g4 false false 0 0 0 (.slice none 0 0)]) [] 6 (by kernel_rfl) rfl ⟨ErrOk.below HE.out HS.out.drew.below, HS.out.drew.sub (by simp)⟩ (fun hS => ?_)
      generalize World.drew _ = W at hS ⊢
      repeat (first | (refine q_go (v := ?_) (by kernel_rfl) (by rfl) (fun _ _ _ h => h) hS ?_ ?_; rotate_left; (focus (intro w hS; have hg := ErrOk.g1 hS.1 (by decide); go_simp; first | done | with_reducible rfl)); simp only [Act.put, List.setIfInBounds_toArray, List.set_cons_zero, List.set_cons_succ, Nat.reduceAdd]))
      obtain ⟨f0, f1⟩ := hS.2.cells 1 rfl
      refine q_put (by kernel_rfl) (by simp) (by rfl) rfl (by go_simp; try rfl) ⟨ErrOk.below HE.out (hS.2.set6 1 rfl _ _ _ _ _ _).below, hS.2.set6 1 rfl _ _ _ _ _ _⟩ (fun hS => ?_)
      clear f0 f1
      obtain ⟨f0, f1⟩ := hS.2.cells 0 rfl
      refine q_put (by kernel_rfl) (by simp) (by rfl) rfl (by go_simp; try rfl) ⟨ErrOk.below HE.out (hS.2.set6 0 rfl _ _ _ _ _ _).below, hS.2.set6 0 rfl _ _ _ _ _ _⟩ (fun hS => ?_)
      clear f0 f1
      repeat (first | (refine q_go (v := ?_) (by kernel_rfl) (by rfl) (fun _ _ _ h => h) hS ?_ ?_; rotate_left; (focus (intro w hS; have hg := ErrOk.g1 hS.1 (by decide); go_simp; first | done | with_reducible rfl)); simp only [Act.put, List.setIfInBounds_toArray, List.set_cons_zero, List.set_cons_succ, Nat.reduceAdd]))
      refine q_done (by kernel_rfl) ?_
      go_wp2
      refine bodyPost_ret (results_list (rs := [.cell 4 28, .cell 5 28, .tmp 6]) rfl (by simp) (.cell g4 28 #[.bool false, .bool false, .int .i64 0, .int .i64 0, .int .i64 0, .slice none 0 0] (0, 0) _ rfl (hS.2.getB 1 rfl) Tryd.underlying28 rfl (by kernel_rfl) (.cell g5 28 #[.bool false, .bool false, .int .i64 0, .int .i64 0, .int .i64 0, .slice none 0 0] (0, 0) _ rfl (hS.2.getB 0 rfl) Tryd.underlying28 rfl (by kernel_rfl) (.tmp .nil)))) rfl ?_
      exact ⟨_, _, fun _ => True, by rfl, Kd.S_nil _ _ _ _ _, Kd.S_nil _ _ _ _ _, hS.2.below⟩
    · have hj := HJ.out
      simp only [impl_Batch_cut.j0, Bool.false_eq_true, if_false] at hj
      have HJ := Aside0.mk hj
      clear hj
      obtain ⟨f0, f1⟩ := HS.out.cells 2 rfl
      go_wp2_with (first | ((with_reducible refine gate_dst (N := 7) rfl ?_); refine w_box HS rfl rfl (by go_simp; try rfl) ?_; intro g7 W h_; clear HS; have HS := h_; clear h_; clear f0 f1; (try clear p0 p1); (try clear q0 q1); obtain ⟨f0, f1⟩ := HS.out.cells 3 rfl; obtain ⟨p0, p1⟩ := HS.out.cells 0 rfl) | ((with_reducible refine gate_store (t := 28) (p := 7) rfl ?_); refine w_put rfl rfl (by go_simp; try rfl) (HS.out.set6 0 rfl _ _ _ _ _ _) ?_; intro W h_; clear HS; have HS := h_; clear h_; clear f0 f1; (try clear p0 p1); (try clear q0 q1); obtain ⟨f0, f1⟩ := HS.out.cells 3 rfl; obtain ⟨p0, p1⟩ := HS.out.cells 0 rfl) | ((with_reducible refine gate_dst (N := 8) rfl ?_); refine w_box HS rfl rfl (by go_simp; try rfl) ?_; intro g8 W h_; clear HS; have HS := h_; clear h_; clear f0 f1; (try clear p0 p1); (try clear q0 q1); obtain ⟨f0, f1⟩ := HS.out.cells 4 rfl; obtain ⟨p0, p1⟩ := HS.out.cells 1 rfl; obtain ⟨q0, q1⟩ := HS.out.cells 0 rfl) | ((with_reducible refine gate_store (t := 28) (p := 8) rfl ?_); refine w_put rfl rfl (by go_simp; try rfl) (HS.out.set6 0 rfl _ _ _ _ _ _) ?_; intro W h_; clear HS; have HS := h_; clear h_; clear f0 f1; (try clear p0 p1); (try clear q0 q1); obtain ⟨f0, f1⟩ := HS.out.cells 4 rfl))
      replace HS := Aside0.mk ((HS.out.pushNil k62 62).pushNil k62 62)
      go_loopg [29] n (fun kq v29 wr => ∃ (x : Int) (xs ys : List S62) (V U : Option Addr) (q p : Nat) (P R : Nat → Prop), v29 = .int .i64 x ∧ Aside0 (impl_Batch_cut.l0 kq o l (l.length : Int) x a0 false 255 0 0 xs a0 false 255 0 0 ys = some (r1, r2, r3, r4, r5, r6, r7, r8, r9, r10, r11, r12, r13)) ∧ Aside0 (kq ≤ n) ∧ Aside0 (St w wr [rowS k62 62 w.heap.size (.slice V xs.length q) xs P, rowS k62 62 w.heap.size (.slice U ys.length p) ys R, batE g8 a0 false 255 0 0 (.slice U ys.length p), batE g7 a0 false 255 0 0 (.slice V xs.length q), batE g5 false false 0 0 0 (.slice none 0 0), batE g4 false false 0 0 0 (.slice none 0 0), batE g2 a0 a1 a2 a3 a4 (.slice A l.length c)]))
      case atStart => exact ⟨0, [], [], none, none, 0, 0, _, _, rfl, HJ, ⟨Nat.le_refl _⟩, HS⟩
      case round =>
        clear HJ f0 f1 HS
        obtain ⟨x, xs, ys, V, U, q, p, P, R, rfl, HA, HK, HS⟩ := hrel
        cases gk with
        | zero => exact absurd HA.out (by simp [impl_Batch_cut.l0])
        | succ k2 =>
          have H := HA.out
          clear HA
          simp only [impl_Batch_cut.l0] at H
          by_cases c1 : x < (l.length : Int)
          · rw [if_pos c1] at H
            by_cases c2 : 0 ≤ x
            case neg => rw [if_neg c2] at H; cases H
            rw [if_pos c2, if_pos c1] at H
            obtain ⟨ad, A3, c3, A5, c5, e_, x0, x1, x2, x3, x4, x5, hl3, hi3, hl5, hi5⟩ := at_T62 HR.out x c2 c1
            cases e_
            replace x0 := (HS.out.below.cell (World.block_lt_of_cell? w _ x0)).trans x0
            replace x1 := (HS.out.below.cell (World.block_lt_of_cell? w _ x1)).trans x1
            replace x2 := (HS.out.below.cell (World.block_lt_of_cell? w _ x2)).trans x2
            replace x3 := (HS.out.below.cell (World.block_lt_of_cell? w _ x3)).trans x3
            replace x4 := (HS.out.below.cell (World.block_lt_of_cell? w _ x4)).trans x4
            replace x5 := (HS.out.below.cell (World.block_lt_of_cell? w _ x5)).trans x5
            have HI := Aside0.mk (And.intro (And.intro hl3 hi3) (And.intro hl5 hi5))
            clear hl3 hi3 hl5 hi5
            by_cases c4 : (rd_T62 l x).f0 < o
            · rw [if_pos c4] at H
              obtain ⟨⟨t0, t1, t2, t3, t4, t5⟩, hcp, H⟩ := Option.bind_eq_some_iff.mp H
              by_cases c5 : xs.length < 1759218604441
              case neg => simp only [if_neg c5] at H; cases H
              simp only [if_pos c5] at H
              obtain ⟨zs, hzs⟩ : ∃ zs, zs = xs ++ [(⟨t0, t1, t2, t3, t4, t5⟩ : S62)] := ⟨_, rfl⟩
              rw [← hzs] at H
              have HZ := Aside0.mk hzs
              have HP := Aside0.mk (And.intro hcp c5)
              have HA := Aside0.mk H
              clear hzs hcp c5 H
              replace c1 := eq_true c1
              replace c2 := eq_true c2
              replace c4 := eq_true c4
              go_wp2_with (first | ((with_reducible refine gate_dst (N := 10) rfl ?_); refine w_box HS rfl rfl (by go_simp; try rfl) ?_; intro g10 W h_; clear HS; have HS := h_; clear h_; (try clear y0 y1); obtain ⟨y0, y1⟩ := HS.out.cells 0 rfl) | ((with_reducible refine gate_store (t := 62) (p := 10) rfl ?_); refine w_put rfl rfl (by go_simp; try rfl) (HS.out.set6 0 rfl _ _ _ _ _ _) ?_; intro W h_; clear HS y0 y1; have HS := h_; clear h_; obtain ⟨y0, y1⟩ := HS.out.cells 0 rfl))
              have HS2 := Aside0.mk HS.out.drew
              refine q_begin (fun W => St w W [boxE g10 #[.int .i64 (rd_T62 l x).f0, .int .i64 (rd_T62 l x).f1, .bool (rd_T62 l x).f2, .slice A3 (rd_T62 l x).f3.length c3, .bool (rd_T62 l x).f4, .slice A5 (rd_T62 l x).f5.length c5] 62, batE g8 a0 false 255 0 0 (.slice U ys.length p), batE g7 a0 false 255 0 0 (.slice V xs.length q), batE g5 false false 0 0 0 (.slice none 0 0), batE g4 false false 0 0 0 (.slice none 0 0), batE g2 a0 a1 a2 a3 a4 (.slice (some ad) l.length c)]) [7] 8 (by kernel_rfl) rfl ((HS2.out.del 1).del 1) (fun hS => ?_)
              clear x0 x1 x2 x3 x4 x5 y0 y1 HS
              generalize World.drew _ = W at hS HS2 ⊢
              repeat (first | (refine q_go (v := ?_) (by kernel_rfl) (by rfl) (fun _ _ _ h => h) hS ?_ ?_; rotate_left; (focus (intro w hS; obtain ⟨f0, f1⟩ := hS.cells 0 rfl; obtain ⟨p0, p1⟩ := hS.cells 2 rfl; go_simp; first | done | with_reducible rfl)); simp only [Act.put, List.setIfInBounds_toArray, List.set_cons_zero, List.set_cons_succ, Nat.reduceAdd]))
              refine q_call (by kernel_rfl) (by decide) (by rfl) Tryd.func54 (by kernel_rfl) rfl #[.agg #[.int .i64 (rd_T62 l x).f0, .int .i64 (rd_T62 l x).f1, .bool (rd_T62 l x).f2, .slice A3 (rd_T62 l x).f3.length c3, .bool (rd_T62 l x).f4, .slice A5 (rd_T62 l x).f5.length c5]] rfl tq ?_
              refine (impl_Record_copyOf.calls _ _ _ _ _ _ _ _ _ _ t0 t1 t2 t3 t4 t5 _ (Kd.C_below HI.out.1.2 hS.below) HI.out.1.1 (Kd.C_below HI.out.2.2 hS.below) HI.out.2.1 HP.out.1).mono ?_
              rintro e W2 ⟨v3, v5, rfl, h3, h5, hb⟩
              have hm : Kd.M k62 W2 W.heap.size (fun _ => True) (⟨t0, t1, t2, t3, t4, t5⟩ : S62) [.int .i64 t0, .int .i64 t1, .bool t2, v3, .bool t4, v5] := k62_mkM _ _ _ (⟨t0, t1, t2, t3, t4, t5⟩ : S62) (Kd.R_mono h3 (fun _ _ => trivial)) (Kd.R_mono h5 (fun _ _ => trivial)) (KV.ofR h3 (fun _ h => h))
              refine ⟨_, rfl, hS.call hb, fun hS => ?_⟩
              replace HS2 := Aside0.mk (((HS2.out.pushM hm hb).front 2 rfl).front 1 rfl)
              obtain ⟨A6, c6, rfl⟩ := Kd.R_slice h3
              obtain ⟨A7, c7, rfl⟩ := Kd.R_slice h5
              clear hm h3 h5 hb
              simp only [Act.put, List.setIfInBounds_toArray, List.set_cons_zero, List.set_cons_succ, Nat.reduceAdd]
              refine q_new (v := .slice (some ⟨W2.heap.size, 0, none⟩) 1 1) (w1 := W2.alloc (.cells (List.toArray [.int .i64 t0, .int .i64 t1, .bool t2, .slice A6 t3.length c6, .bool t4, .slice A7 t5.length c7]) 62)) (by kernel_rfl) (by decide) (by rfl) (by go_simp; try rfl) (hS.call (below_alloc (Below.refl _ _) _)) (fun hS => ?_)
              simp only [Act.put, List.setIfInBounds_toArray, List.set_cons_zero, List.set_cons_succ, Nat.reduceAdd]
              refine q_stp (by kernel_rfl) (by decide) (fun K hK => ?_)
              refine S_app1_step (d := k62) (e := 62) HS2.out rfl (.tmp 38) (.tmp 41) 26 (.agg #[.int .i64 0, .int .i64 0, .bool false, .slice none 0 0, .bool false, .slice none 0 0]) 80 rfl Tryd.underlying26 (by kernel_rfl) rfl (by decide) (by omega) rfl rfl (by have := HP.out.2; omega) ?_
              intro v1 W3 P1 HS3
              rw [← HZ.out] at HS3
              obtain ⟨V1, q1, rfl⟩ := Kd.S_slice (HS3.getS 0 rfl)
              refine hK.out _ _ (HS3.drop1.del 1) (fun hS => ?_)
              clear hK K HS2
              simp only [Act.put, List.setIfInBounds_toArray, List.set_cons_zero, List.set_cons_succ, Nat.reduceAdd]
              refine q_go (v := ?_) (by kernel_rfl) (by rfl) (fun _ _ _ h => h) hS ?_ ?_
              rotate_left
              focus (intro w hS; go_simp; first | done | with_reducible rfl)
              simp only [Act.put, List.setIfInBounds_toArray, List.set_cons_zero, List.set_cons_succ, Nat.reduceAdd]
              obtain ⟨f0, f1⟩ := hS.cells 2 rfl
              refine q_store (by kernel_rfl) (by decide) (by rfl) rfl (by go_simp; try rfl) ?_
              have HS := Aside0.mk (show St w _ [rowS k62 62 w.heap.size (.slice V1 zs.length q1) zs P1, rowS k62 62 w.heap.size (.slice U ys.length p) ys R, batE g8 a0 false 255 0 0 (.slice U ys.length p), batE g7 a0 false 255 0 0 (.slice V1 zs.length q1), batE g5 false false 0 0 0 (.slice none 0 0), batE g4 false false 0 0 0 (.slice none 0 0), batE g2 a0 a1 a2 a3 a4 (.slice (some ad) l.length c)] from ((HS3.del 1).set1 3 rfl 5 (.slice V1 zs.length q1)))
              generalize World.setCell _ _ _ = W4 at HS ⊢
              clear HS3 hS f0 f1
              refine q_done (by kernel_rfl) ?_
              try go_wp2
              go_roundg k2
              case measure => omega
              case rel => exact ⟨_, zs, ys, V1, U, q1, p, P1, R, rfl, HA, ⟨by have := HK.out; omega⟩, HS⟩
            · rw [if_neg c4] at H
              obtain ⟨⟨t0, t1, t2, t3, t4, t5⟩, hcp, H⟩ := Option.bind_eq_some_iff.mp H
              by_cases c5 : ys.length < 1759218604441
              case neg => simp only [if_neg c5] at H; cases H
              simp only [if_pos c5] at H
              obtain ⟨zs, hzs⟩ : ∃ zs, zs = ys ++ [(⟨t0, t1, t2, t3, t4, t5⟩ : S62)] := ⟨_, rfl⟩
              rw [← hzs] at H
              have HZ := Aside0.mk hzs
              have HP := Aside0.mk (And.intro hcp c5)
              have HA := Aside0.mk H
              clear hzs hcp c5 H
              replace c1 := eq_true c1
              replace c2 := eq_true c2
              replace c4 := eq_false c4
              go_wp2_with (first | ((with_reducible refine gate_dst (N := 10) rfl ?_); refine w_box HS rfl rfl (by go_simp; try rfl) ?_; intro g10 W h_; clear HS; have HS := h_; clear h_; (try clear y0 y1); obtain ⟨y0, y1⟩ := HS.out.cells 0 rfl) | ((with_reducible refine gate_store (t := 62) (p := 10) rfl ?_); refine w_put rfl rfl (by go_simp; try rfl) (HS.out.set6 0 rfl _ _ _ _ _ _) ?_; intro W h_; clear HS y0 y1; have HS := h_; clear h_; obtain ⟨y0, y1⟩ := HS.out.cells 0 rfl))
              have HS2 := Aside0.mk HS.out.drew
              refine q_begin (fun W => St w W [boxE g10 #[.int .i64 (rd_T62 l x).f0, .int .i64 (rd_T62 l x).f1, .bool (rd_T62 l x).f2, .slice A3 (rd_T62 l x).f3.length c3, .bool (rd_T62 l x).f4, .slice A5 (rd_T62 l x).f5.length c5] 62, batE g8 a0 false 255 0 0 (.slice U ys.length p), batE g7 a0 false 255 0 0 (.slice V xs.length q), batE g5 false false 0 0 0 (.slice none 0 0), batE g4 false false 0 0 0 (.slice none 0 0), batE g2 a0 a1 a2 a3 a4 (.slice (some ad) l.length c)]) [7] 8 (by kernel_rfl) rfl ((HS2.out.del 1).del 1) (fun hS => ?_)
              clear x0 x1 x2 x3 x4 x5 y0 y1 HS
              generalize World.drew _ = W at hS HS2 ⊢
              repeat (first | (refine q_go (v := ?_) (by kernel_rfl) (by rfl) (fun _ _ _ h => h) hS ?_ ?_; rotate_left; (focus (intro w hS; obtain ⟨f0, f1⟩ := hS.cells 0 rfl; obtain ⟨p0, p1⟩ := hS.cells 1 rfl; go_simp; first | done | with_reducible rfl)); simp only [Act.put, List.setIfInBounds_toArray, List.set_cons_zero, List.set_cons_succ, Nat.reduceAdd]))
              refine q_call (by kernel_rfl) (by decide) (by rfl) Tryd.func54 (by kernel_rfl) rfl #[.agg #[.int .i64 (rd_T62 l x).f0, .int .i64 (rd_T62 l x).f1, .bool (rd_T62 l x).f2, .slice A3 (rd_T62 l x).f3.length c3, .bool (rd_T62 l x).f4, .slice A5 (rd_T62 l x).f5.length c5]] rfl tq ?_
              refine (impl_Record_copyOf.calls _ _ _ _ _ _ _ _ _ _ t0 t1 t2 t3 t4 t5 _ (Kd.C_below HI.out.1.2 hS.below) HI.out.1.1 (Kd.C_below HI.out.2.2 hS.below) HI.out.2.1 HP.out.1).mono ?_
              rintro e W2 ⟨v3, v5, rfl, h3, h5, hb⟩
              have hm : Kd.M k62 W2 W.heap.size (fun _ => True) (⟨t0, t1, t2, t3, t4, t5⟩ : S62) [.int .i64 t0, .int .i64 t1, .bool t2, v3, .bool t4, v5] := k62_mkM _ _ _ (⟨t0, t1, t2, t3, t4, t5⟩ : S62) (Kd.R_mono h3 (fun _ _ => trivial)) (Kd.R_mono h5 (fun _ _ => trivial)) (KV.ofR h3 (fun _ h => h))
              refine ⟨_, rfl, hS.call hb, fun hS => ?_⟩
              replace HS2 := Aside0.mk (((HS2.out.pushM hm hb).front 3 rfl).front 1 rfl)
              obtain ⟨A6, c6, rfl⟩ := Kd.R_slice h3
              obtain ⟨A7, c7, rfl⟩ := Kd.R_slice h5
              clear hm h3 h5 hb
              simp only [Act.put, List.setIfInBounds_toArray, List.set_cons_zero, List.set_cons_succ, Nat.reduceAdd]
              refine q_new (v := .slice (some ⟨W2.heap.size, 0, none⟩) 1 1) (w1 := W2.alloc (.cells (List.toArray [.int .i64 t0, .int .i64 t1, .bool t2, .slice A6 t3.length c6, .bool t4, .slice A7 t5.length c7]) 62)) (by kernel_rfl) (by decide) (by rfl) (by go_simp; try rfl) (hS.call (below_alloc (Below.refl _ _) _)) (fun hS => ?_)
              simp only [Act.put, List.setIfInBounds_toArray, List.set_cons_zero, List.set_cons_succ, Nat.reduceAdd]
              refine q_stp (by kernel_rfl) (by decide) (fun K hK => ?_)
              refine S_app1_step (d := k62) (e := 62) HS2.out rfl (.tmp 45) (.tmp 48) 26 (.agg #[.int .i64 0, .int .i64 0, .bool false, .slice none 0 0, .bool false, .slice none 0 0]) 80 rfl Tryd.underlying26 (by kernel_rfl) rfl (by decide) (by omega) rfl rfl (by have := HP.out.2; omega) ?_
              intro v1 W3 P1 HS3
              rw [← HZ.out] at HS3
              obtain ⟨V1, q1, rfl⟩ := Kd.S_slice (HS3.getS 0 rfl)
              refine hK.out _ _ (HS3.drop1.del 1) (fun hS => ?_)
              clear hK K HS2
              simp only [Act.put, List.setIfInBounds_toArray, List.set_cons_zero, List.set_cons_succ, Nat.reduceAdd]
              refine q_go (v := ?_) (by kernel_rfl) (by rfl) (fun _ _ _ h => h) hS ?_ ?_
              rotate_left
              focus (intro w hS; go_simp; first | done | with_reducible rfl)
              simp only [Act.put, List.setIfInBounds_toArray, List.set_cons_zero, List.set_cons_succ, Nat.reduceAdd]
              obtain ⟨f0, f1⟩ := hS.cells 1 rfl
              refine q_store (by kernel_rfl) (by decide) (by rfl) rfl (by go_simp; try rfl) ?_
              have HS := Aside0.mk (show St w _ [rowS k62 62 w.heap.size (.slice V xs.length q) xs P, rowS k62 62 w.heap.size (.slice V1 zs.length q1) zs P1, batE g8 a0 false 255 0 0 (.slice V1 zs.length q1), batE g7 a0 false 255 0 0 (.slice V xs.length q), batE g5 false false 0 0 0 (.slice none 0 0), batE g4 false false 0 0 0 (.slice none 0 0), batE g2 a0 a1 a2 a3 a4 (.slice (some ad) l.length c)] from (((HS3.del 1).set1 2 rfl 5 (.slice V1 zs.length q1)).front 1 rfl))
              generalize World.setCell _ _ _ = W4 at HS ⊢
              clear HS3 hS f0 f1
              refine q_done (by kernel_rfl) ?_
              try go_wp2
              go_roundg k2
              case measure => omega
              case rel => exact ⟨_, xs, zs, V, V1, q, q1, P, P1, rfl, HA, ⟨by have := HK.out; omega⟩, HS⟩
          · rw [if_neg c1] at H
            obtain ⟨f0, f1⟩ := HS.out.cells 3 rfl
            obtain ⟨p0, p1⟩ := HS.out.cells 2 rfl
            have c0 : decide (x < (l.length : Int)) = false := decide_eq_false c1
            by_cases e1 : (xs.length : Int) = 0
            · rw [if_pos e1] at H
              have de10 : decide ((xs.length : Int) = 0) = true := decide_eq_true e1; have de11 : ((xs.length : Int) != 0) = false := bne_eq_false_iff_eq.mpr e1; have de12 : ((xs.length : Int) == 0) = true := beq_iff_eq.mpr e1
              cases H
              go_wp2
              have HG := Aside0.mk (ErrOk.below HE.out HS.out.below)
              refine q_begin (fun W => ErrOk [1] W ∧ St w W [batE g5 false false 0 0 0 (.slice none 0 0), batE g4 false false 0 0 0 (.slice none 0 0)]) [] 6 (by kernel_rfl) rfl ⟨ErrOk.below HE.out HS.out.drew.below, ((((HS.out.drew.del 0).del 0).del 0).del 0).sub (by simp)⟩ (fun hS => ?_)
              generalize World.drew _ = W at hS ⊢
              repeat (first | (refine q_go (v := ?_) (by kernel_rfl) (by rfl) (fun _ _ _ h => h) hS ?_ ?_; rotate_left; (focus (intro w hS; have hg := ErrOk.g1 hS.1 (by decide); go_simp; first | done | with_reducible rfl)); simp only [Act.put, List.setIfInBounds_toArray, List.set_cons_zero, List.set_cons_succ, Nat.reduceAdd]))
              obtain ⟨f0, f1⟩ := hS.2.cells 1 rfl
              refine q_put (by kernel_rfl) (by simp) (by rfl) rfl (by go_simp; try rfl) ⟨ErrOk.below HE.out (hS.2.set6 1 rfl _ _ _ _ _ _).below, hS.2.set6 1 rfl _ _ _ _ _ _⟩ (fun hS => ?_)
              clear f0 f1
              obtain ⟨f0, f1⟩ := hS.2.cells 0 rfl
              refine q_put (by kernel_rfl) (by simp) (by rfl) rfl (by go_simp; try rfl) ⟨ErrOk.below HE.out (hS.2.set6 0 rfl _ _ _ _ _ _).below, hS.2.set6 0 rfl _ _ _ _ _ _⟩ (fun hS => ?_)
              clear f0 f1
              repeat (first | (refine q_go (v := ?_) (by kernel_rfl) (by rfl) (fun _ _ _ h => h) hS ?_ ?_; rotate_left; (focus (intro w hS; have hg := ErrOk.g1 hS.1 (by decide); go_simp; first | done | with_reducible rfl)); simp only [Act.put, List.setIfInBounds_toArray, List.set_cons_zero, List.set_cons_succ, Nat.reduceAdd]))
              refine q_done (by kernel_rfl) ?_
              go_wp2
              refine bodyPost_ret (results_list (rs := [.cell 4 28, .cell 5 28, .tmp 6]) rfl (by simp) (.cell g4 28 #[.bool false, .bool false, .int .i64 0, .int .i64 0, .int .i64 0, .slice none 0 0] (0, 0) _ rfl (hS.2.getB 1 rfl) Tryd.underlying28 rfl (by kernel_rfl) (.cell g5 28 #[.bool false, .bool false, .int .i64 0, .int .i64 0, .int .i64 0, .slice none 0 0] (0, 0) _ rfl (hS.2.getB 0 rfl) Tryd.underlying28 rfl (by kernel_rfl) (.tmp .nil)))) rfl ?_
              exact ⟨_, _, fun _ => True, by rfl, Kd.S_nil _ _ _ _ _, Kd.S_nil _ _ _ _ _, hS.2.below⟩
            · rw [if_neg e1] at H
              have de10 : decide ((xs.length : Int) = 0) = false := decide_eq_false e1; have de11 : ((xs.length : Int) != 0) = true := bne_iff_ne.mpr e1; have de12 : ((xs.length : Int) == 0) = false := beq_eq_false_iff_ne.mpr e1
              by_cases e2 : (ys.length : Int) = 0
              · rw [if_pos e2] at H
                have de20 : decide ((ys.length : Int) = 0) = true := decide_eq_true e2; have de21 : ((ys.length : Int) != 0) = false := bne_eq_false_iff_eq.mpr e2; have de22 : ((ys.length : Int) == 0) = true := beq_iff_eq.mpr e2
                cases H
                go_wp2
                have HG := Aside0.mk (ErrOk.below HE.out HS.out.below)
                refine q_begin (fun W => ErrOk [1] W ∧ St w W [batE g5 false false 0 0 0 (.slice none 0 0), batE g4 false false 0 0 0 (.slice none 0 0)]) [] 6 (by kernel_rfl) rfl ⟨ErrOk.below HE.out HS.out.drew.below, ((((HS.out.drew.del 0).del 0).del 0).del 0).sub (by simp)⟩ (fun hS => ?_)
                generalize World.drew _ = W at hS ⊢
                repeat (first | (refine q_go (v := ?_) (by kernel_rfl) (by rfl) (fun _ _ _ h => h) hS ?_ ?_; rotate_left; (focus (intro w hS; have hg := ErrOk.g1 hS.1 (by decide); go_simp; first | done | with_reducible rfl)); simp only [Act.put, List.setIfInBounds_toArray, List.set_cons_zero, List.set_cons_succ, Nat.reduceAdd]))
                obtain ⟨f0, f1⟩ := hS.2.cells 1 rfl
                refine q_put (by kernel_rfl) (by simp) (by rfl) rfl (by go_simp; try rfl) ⟨ErrOk.below HE.out (hS.2.set6 1 rfl _ _ _ _ _ _).below, hS.2.set6 1 rfl _ _ _ _ _ _⟩ (fun hS => ?_)
                clear f0 f1
                obtain ⟨f0, f1⟩ := hS.2.cells 0 rfl
                refine q_put (by kernel_rfl) (by simp) (by rfl) rfl (by go_simp; try rfl) ⟨ErrOk.below HE.out (hS.2.set6 0 rfl _ _ _ _ _ _).below, hS.2.set6 0 rfl _ _ _ _ _ _⟩ (fun hS => ?_)
                clear f0 f1
                repeat (first | (refine q_go (v := ?_) (by kernel_rfl) (by rfl) (fun _ _ _ h => h) hS ?_ ?_; rotate_left; (focus (intro w hS; have hg := ErrOk.g1 hS.1 (by decide); go_simp; first | done | with_reducible rfl)); simp only [Act.put, List.setIfInBounds_toArray, List.set_cons_zero, List.set_cons_succ, Nat.reduceAdd]))
                refine q_done (by kernel_rfl) ?_
                go_wp2
                refine bodyPost_ret (results_list (rs := [.cell 4 28, .cell 5 28, .tmp 6]) rfl (by simp) (.cell g4 28 #[.bool false, .bool false, .int .i64 0, .int .i64 0, .int .i64 0, .slice none 0 0] (0, 0) _ rfl (hS.2.getB 1 rfl) Tryd.underlying28 rfl (by kernel_rfl) (.cell g5 28 #[.bool false, .bool false, .int .i64 0, .int .i64 0, .int .i64 0, .slice none 0 0] (0, 0) _ rfl (hS.2.getB 0 rfl) Tryd.underlying28 rfl (by kernel_rfl) (.tmp .nil)))) rfl ?_
                exact ⟨_, _, fun _ => True, by rfl, Kd.S_nil _ _ _ _ _, Kd.S_nil _ _ _ _ _, hS.2.below⟩
              · rw [if_neg e2] at H
                have de20 : decide ((ys.length : Int) = 0) = false := decide_eq_false e2; have de21 : ((ys.length : Int) != 0) = true := bne_iff_ne.mpr e2; have de22 : ((ys.length : Int) == 0) = false := beq_eq_false_iff_ne.mpr e2
                cases H
                go_wp2
                have HS2 := Aside0.mk HS.out.drew
                refine q_begin (fun W => St w W [rowS k62 62 w.heap.size (.slice V r6.length q) r6 P, rowS k62 62 w.heap.size (.slice U r12.length p) r12 R, batE g8 a0 false 255 0 0 (.slice U r12.length p), batE g7 a0 false 255 0 0 (.slice V r6.length q)]) [] 5 (by kernel_rfl) rfl (((HS2.out.del 6).del 5).del 4) (fun hS => ?_)
                generalize World.drew _ = W at hS HS2 ⊢
                clear f0 f1 p0 p1
                repeat (first | (refine q_go (v := ?_) (by kernel_rfl) (by rfl) (fun _ _ _ h => h) hS ?_ ?_; rotate_left; (focus (intro w hS; obtain ⟨f0, f1⟩ := hS.cells 3 rfl; obtain ⟨p0, p1⟩ := hS.cells 2 rfl; go_simp; first | done | with_reducible rfl)); simp only [Act.put, List.setIfInBounds_toArray, List.set_cons_zero, List.set_cons_succ, Nat.reduceAdd]))
                obtain ⟨f0, f1⟩ := HS2.out.cells 5 rfl
                replace HS2 := Aside0.mk (HS2.out.set6 5 rfl (.bool a0) (.bool false) (.int .i64 255) (.int .i64 0) (.int .i64 0) (.slice V r6.length q))
                refine q_put (by kernel_rfl) (by simp) (by rfl) rfl (by go_simp; try rfl) (((HS2.out.del 6).del 5).del 4) (fun hS => ?_)
                clear f0 f1
                obtain ⟨f0, f1⟩ := HS2.out.cells 4 rfl
                replace HS2 := Aside0.mk (HS2.out.set6 4 rfl (.bool a0) (.bool false) (.int .i64 255) (.int .i64 0) (.int .i64 0) (.slice U r12.length p))
                refine q_put (by kernel_rfl) (by simp) (by rfl) rfl (by go_simp; try rfl) (((HS2.out.del 6).del 5).del 4) (fun hS => ?_)
                clear f0 f1
                repeat (first | (refine q_go (v := ?_) (by kernel_rfl) (by rfl) (fun _ _ _ h => h) hS ?_ ?_; rotate_left; (focus (intro w hS; obtain ⟨f0, f1⟩ := hS.cells 3 rfl; obtain ⟨p0, p1⟩ := hS.cells 2 rfl; go_simp; first | done | with_reducible rfl)); simp only [Act.put, List.setIfInBounds_toArray, List.set_cons_zero, List.set_cons_succ, Nat.reduceAdd]))
                refine q_done (by kernel_rfl) ?_
                go_wp2
                refine bodyPost_ret (results_list (rs := [.cell 4 28, .cell 5 28, .tmp 6]) rfl (by simp) (.cell g4 28 #[.bool a0, .bool false, .int .i64 255, .int .i64 0, .int .i64 0, .slice V r6.length q] (0, 0) _ rfl (HS2.out.getB 5 rfl) Tryd.underlying28 rfl (by kernel_rfl) (.cell g5 28 #[.bool a0, .bool false, .int .i64 255, .int .i64 0, .int .i64 0, .slice U r12.length p] (0, 0) _ rfl (HS2.out.getB 4 rfl) Tryd.underlying28 rfl (by kernel_rfl) (.tmp .nil)))) rfl ?_
                exact ⟨_, _, P, by rfl, HS2.out.getS 0 rfl, Kd.S_mono (HS2.out.getS 1 rfl) (fun k h1 h2 => HS2.out.apart 0 1 rfl rfl (by omega) k h2 h1), HS2.out.below⟩
set_option maxHeartbeats 4000000 in
set_option maxRecDepth 100000 in
theorem impl_BatchCut.callsS [ErrA] (k : Nat) (a0 a1 : Bool) (a2 a3 a4 : Int) (A : Option Addr) (c : Nat) (l : List S62) (o : Int) (r1 r2 : Bool) (r3 r4 r5 : Int) (r6 : List S62) (r7 r8 : Bool) (r9 r10 r11 : Int) (r12 : List S62) (r13 : Bool) (w : World)
    (hE : ErrOk [1] w) (hr : Kd.C k62 w A l.length l) (hc : l.length ≤ c) (h : impl_BatchCut.f k a0 a1 a2 a3 a4 l o = some (r1, r2, r3, r4, r5, r6, r7, r8, r9, r10, r11, r12, r13)) :
    Calls Tryd.prog 15 #[BatV a0 a1 a2 a3 a4 (.slice A l.length c), .int .i64 o] w fun e w' => ∃ (v u : Value) (P : Nat → Prop), e = .returned (.tuple #[BatV r1 r2 r3 r4 r5 v, BatV r7 r8 r9 r10 r11 u, .bool r13]) ∧ Kd.S k62 62 w' w.heap.size P v r6 ∧ Kd.S k62 62 w' w.heap.size (fun k => ¬ P k) u r12 ∧ Below w.heap.size w w' := by
  have HE := Aside0.mk hE
  have HR := Aside0.mk hr
  have HC := Aside0.mk hc
  have HS := Aside0.mk (St.nil w)
  have hu := Tryd.underlying28
  clear hE hr hc
  unfold impl_BatchCut.f at h
  obtain ⟨⟨t0, t1, t2, t3, t4, t5, u0, u1, u2, u3, u4, u5, er⟩, hj, h⟩ := Option.bind_eq_some_iff.mp h
  obtain ⟨x, hx, h⟩ := Option.bind_eq_some_iff.mp h
  have HJ := Aside0.mk (And.intro hj hx)
  have HK := Aside0.mk h
  clear hj hx h
  go_enter Tryd.func15, Tryd.ntmps15
  cases x
  rotate_left
  · go_wp2_with (first | ((with_reducible refine gate_dst (N := 2) rfl ?_); refine w_box HS rfl rfl (by go_simp; try rfl) ?_; intro g2 W h_; clear HS; have HS := h_; clear h_) | ((with_reducible refine gate_dst (N := 4) rfl ?_); refine w_box HS rfl rfl (by go_simp; try rfl) ?_; intro g4 W h_; clear HS; have HS := h_; clear h_) | ((with_reducible refine gate_dst (N := 5) rfl ?_); refine w_box HS rfl rfl (by go_simp; try rfl) ?_; intro g5 W h_; clear HS; have HS := h_; clear h_; obtain ⟨f0, f1⟩ := HS.out.cells 2 rfl) | (go_at_call 34; with_reducible refine (impl_Batch_cut.callsS k a0 a1 a2 a3 a4 _ _ l o t0 t1 t2 t3 t4 t5 u0 u1 u2 u3 u4 u5 er _ (ErrOk.below HE.out HS.out.below) (Kd.C_below HR.out HS.out.below) HC.out HJ.out.1).mono ?_; rintro e W ⟨v, u, P, rfl, hs, hs2, hb⟩; obtain ⟨V, q, rfl⟩ := Kd.S_slice hs; obtain ⟨U, p, rfl⟩ := Kd.S_slice hs2; replace HS := Aside0.mk (HS.out.push2 hs hs2 hb); clear hs hs2 hb f0 f1) | ((with_reducible refine gate_dst (N := 7) rfl ?_); refine w_box HS rfl rfl (by go_simp; try rfl) ?_; intro g7 W h_; clear HS; have HS := h_; clear h_) | ((with_reducible refine gate_dst (N := 8) rfl ?_); refine w_box HS rfl rfl (by go_simp; try rfl) ?_; intro g8 W h_; clear HS; have HS := h_; clear h_; (try clear f0 f1); (try clear p0 p1); (try clear q0 q1); (try clear y0 y1); obtain ⟨f0, f1⟩ := HS.out.cells 5 rfl; obtain ⟨q0, q1⟩ := HS.out.cells 4 rfl; obtain ⟨p0, p1⟩ := HS.out.cells 1 rfl; obtain ⟨y0, y1⟩ := HS.out.cells 0 rfl) | ((with_reducible refine gate_store (t := 28) (p := 7) rfl ?_); refine w_put rfl rfl (by go_simp; try rfl) (HS.out.set6 1 rfl _ _ _ _ _ _) ?_; intro W h_; clear HS; have HS := h_; clear h_; (try simp only [List.set_cons_zero, List.set_cons_succ] at HS); (try clear f0 f1); (try clear p0 p1); (try clear q0 q1); (try clear y0 y1); obtain ⟨f0, f1⟩ := HS.out.cells 5 rfl; obtain ⟨q0, q1⟩ := HS.out.cells 4 rfl; obtain ⟨p0, p1⟩ := HS.out.cells 1 rfl; obtain ⟨y0, y1⟩ := HS.out.cells 0 rfl) | ((with_reducible refine gate_store (t := 28) (p := 8) rfl ?_); refine w_put rfl rfl (by go_simp; try rfl) (HS.out.set6 0 rfl _ _ _ _ _ _) ?_; intro W h_; clear HS; have HS := h_; clear h_; (try simp only [List.set_cons_zero, List.set_cons_succ] at HS); (try clear f0 f1); (try clear p0 p1); (try clear q0 q1); (try clear y0 y1); obtain ⟨f0, f1⟩ := HS.out.cells 5 rfl; obtain ⟨q0, q1⟩ := HS.out.cells 4 rfl; obtain ⟨p0, p1⟩ := HS.out.cells 1 rfl; obtain ⟨y0, y1⟩ := HS.out.cells 0 rfl) | ((with_reducible refine gate_dst (N := 18) rfl ?_); refine glob_ rfl (v := errW (some 2)) (g := 1) ?hr ?hc ?_; (case hc => exact ErrOk.g1 (ErrOk.below HE.out HS.out.below) (by decide)); (case hr => intro W_ hc_; go_simp)) | (go_at_call 30; with_reducible refine (errors_Is.calls er (some 2) _ _ HJ.out.2).mono ?_; rintro e W ⟨rfl, hb⟩; replace HS := Aside0.mk (HS.out.call hb); clear hb; (try clear f0 f1); (try clear p0 p1); (try clear q0 q1); (try clear y0 y1); obtain ⟨f0, f1⟩ := HS.out.cells 5 rfl; obtain ⟨q0, q1⟩ := HS.out.cells 4 rfl; obtain ⟨p0, p1⟩ := HS.out.cells 1 rfl; obtain ⟨y0, y1⟩ := HS.out.cells 0 rfl) | ((with_reducible refine gate_store (t := 28) (p := 4) rfl ?_); refine w_put rfl rfl (by go_simp; try rfl) (HS.out.set6 5 rfl _ _ _ _ _ _) ?_; intro W h_; clear HS; have HS := h_; clear h_; (try simp only [List.set_cons_zero, List.set_cons_succ] at HS); (try clear f0 f1); (try clear p0 p1); (try clear q0 q1); (try clear y0 y1); obtain ⟨f0, f1⟩ := HS.out.cells 5 rfl; obtain ⟨q0, q1⟩ := HS.out.cells 4 rfl; obtain ⟨p0, p1⟩ := HS.out.cells 1 rfl; obtain ⟨y0, y1⟩ := HS.out.cells 0 rfl) | ((with_reducible refine gate_store (t := 28) (p := 5) rfl ?_); refine w_put rfl rfl (by go_simp; try rfl) (HS.out.set6 4 rfl _ _ _ _ _ _) ?_; intro W h_; clear HS; have HS := h_; clear h_; (try simp only [List.set_cons_zero, List.set_cons_succ] at HS); (try clear f0 f1); (try clear p0 p1); (try clear q0 q1); (try clear y0 y1); obtain ⟨f0, f1⟩ := HS.out.cells 5 rfl; obtain ⟨q0, q1⟩ := HS.out.cells 4 rfl; obtain ⟨p0, p1⟩ := HS.out.cells 1 rfl; obtain ⟨y0, y1⟩ := HS.out.cells 0 rfl))
    cases HK.out
    refine bodyPost_ret (results_list (rs := [.cell 4 28, .cell 5 28, .tmp 6]) rfl (by simp) (.cell g4 28 #[.bool false, .bool false, .int .i64 0, .int .i64 0, .int .i64 0, .slice none 0 0] (0, 0) _ rfl (HS.out.getB 5 rfl) Tryd.underlying28 rfl (by kernel_rfl) (.cell g5 28 #[.bool false, .bool false, .int .i64 0, .int .i64 0, .int .i64 0, .slice none 0 0] (0, 0) _ rfl (HS.out.getB 4 rfl) Tryd.underlying28 rfl (by kernel_rfl) (.tmp .nil)))) rfl ?_
    exact ⟨_, _, fun _ => True, by rfl, Kd.S_nil _ _ _ _ _, Kd.S_nil _ _ _ _ _, HS.out.below⟩
  · go_wp2_with (first | ((with_reducible refine gate_dst (N := 2) rfl ?_); refine w_box HS rfl rfl (by go_simp; try rfl) ?_; intro g2 W h_; clear HS; have HS := h_; clear h_) | ((with_reducible refine gate_dst (N := 4) rfl ?_); refine w_box HS rfl rfl (by go_simp; try rfl) ?_; intro g4 W h_; clear HS; have HS := h_; clear h_) | ((with_reducible refine gate_dst (N := 5) rfl ?_); refine w_box HS rfl rfl (by go_simp; try rfl) ?_; intro g5 W h_; clear HS; have HS := h_; clear h_; obtain ⟨f0, f1⟩ := HS.out.cells 2 rfl) | (go_at_call 34; with_reducible refine (impl_Batch_cut.callsS k a0 a1 a2 a3 a4 _ _ l o t0 t1 t2 t3 t4 t5 u0 u1 u2 u3 u4 u5 er _ (ErrOk.below HE.out HS.out.below) (Kd.C_below HR.out HS.out.below) HC.out HJ.out.1).mono ?_; rintro e W ⟨v, u, P, rfl, hs, hs2, hb⟩; obtain ⟨V, q, rfl⟩ := Kd.S_slice hs; obtain ⟨U, p, rfl⟩ := Kd.S_slice hs2; replace HS := Aside0.mk (HS.out.push2 hs hs2 hb); clear hs hs2 hb f0 f1) | ((with_reducible refine gate_dst (N := 7) rfl ?_); refine w_box HS rfl rfl (by go_simp; try rfl) ?_; intro g7 W h_; clear HS; have HS := h_; clear h_) | ((with_reducible refine gate_dst (N := 8) rfl ?_); refine w_box HS rfl rfl (by go_simp; try rfl) ?_; intro g8 W h_; clear HS; have HS := h_; clear h_; (try clear f0 f1); (try clear p0 p1); (try clear q0 q1); (try clear y0 y1); obtain ⟨f0, f1⟩ := HS.out.cells 5 rfl; obtain ⟨q0, q1⟩ := HS.out.cells 4 rfl; obtain ⟨p0, p1⟩ := HS.out.cells 1 rfl; obtain ⟨y0, y1⟩ := HS.out.cells 0 rfl) | ((with_reducible refine gate_store (t := 28) (p := 7) rfl ?_); refine w_put rfl rfl (by go_simp; try rfl) (HS.out.set6 1 rfl _ _ _ _ _ _) ?_; intro W h_; clear HS; have HS := h_; clear h_; (try simp only [List.set_cons_zero, List.set_cons_succ] at HS); (try clear f0 f1); (try clear p0 p1); (try clear q0 q1); (try clear y0 y1); obtain ⟨f0, f1⟩ := HS.out.cells 5 rfl; obtain ⟨q0, q1⟩ := HS.out.cells 4 rfl; obtain ⟨p0, p1⟩ := HS.out.cells 1 rfl; obtain ⟨y0, y1⟩ := HS.out.cells 0 rfl) | ((with_reducible refine gate_store (t := 28) (p := 8) rfl ?_); refine w_put rfl rfl (by go_simp; try rfl) (HS.out.set6 0 rfl _ _ _ _ _ _) ?_; intro W h_; clear HS; have HS := h_; clear h_; (try simp only [List.set_cons_zero, List.set_cons_succ] at HS); (try clear f0 f1); (try clear p0 p1); (try clear q0 q1); (try clear y0 y1); obtain ⟨f0, f1⟩ := HS.out.cells 5 rfl; obtain ⟨q0, q1⟩ := HS.out.cells 4 rfl; obtain ⟨p0, p1⟩ := HS.out.cells 1 rfl; obtain ⟨y0, y1⟩ := HS.out.cells 0 rfl) | ((with_reducible refine gate_dst (N := 18) rfl ?_); refine glob_ rfl (v := errW (some 2)) (g := 1) ?hr ?hc ?_; (case hc => exact ErrOk.g1 (ErrOk.below HE.out HS.out.below) (by decide)); (case hr => intro W_ hc_; go_simp)) | (go_at_call 30; with_reducible refine (errors_Is.calls er (some 2) _ _ HJ.out.2).mono ?_; rintro e W ⟨rfl, hb⟩; replace HS := Aside0.mk (HS.out.call hb); clear hb; (try clear f0 f1); (try clear p0 p1); (try clear q0 q1); (try clear y0 y1); obtain ⟨f0, f1⟩ := HS.out.cells 5 rfl; obtain ⟨q0, q1⟩ := HS.out.cells 4 rfl; obtain ⟨p0, p1⟩ := HS.out.cells 1 rfl; obtain ⟨y0, y1⟩ := HS.out.cells 0 rfl))
    cases HK.out
    have HS2 := Aside0.mk HS.out.drew
    refine q_begin (fun W => St w W [batE g8 r7 r8 r9 r10 r11 (.slice U r12.length p), batE g7 r1 r2 r3 r4 r5 (.slice V r6.length q)]) [] 5 (by kernel_rfl) rfl (((((HS2.out.del 6).del 5).del 4).del 3).del 2) (fun hS => ?_)
    clear f0 f1 p0 p1 q0 q1 y0 y1 HS
    generalize World.drew _ = W at hS HS2 ⊢
    repeat (first | (refine q_go (v := ?_) (by kernel_rfl) (by rfl) (fun _ _ _ h => h) hS ?_ ?_; rotate_left; (focus (intro w hS; obtain ⟨f0, f1⟩ := hS.cells 1 rfl; obtain ⟨p0, p1⟩ := hS.cells 0 rfl; go_simp; first | done | with_reducible rfl)); simp only [Act.put, List.setIfInBounds_toArray, List.set_cons_zero, List.set_cons_succ, Nat.reduceAdd]))
    obtain ⟨f0, f1⟩ := HS2.out.cells 5 rfl
    replace HS2 := Aside0.mk (HS2.out.set6 5 rfl (.bool r1) (.bool r2) (.int .i64 r3) (.int .i64 r4) (.int .i64 r5) (.slice V r6.length q))
    refine q_put (by kernel_rfl) (by simp) (by rfl) rfl (by go_simp; try rfl) (((((HS2.out.del 6).del 5).del 4).del 3).del 2) (fun hS => ?_)
    clear f0 f1
    obtain ⟨f0, f1⟩ := HS2.out.cells 4 rfl
    replace HS2 := Aside0.mk (HS2.out.set6 4 rfl (.bool r7) (.bool r8) (.int .i64 r9) (.int .i64 r10) (.int .i64 r11) (.slice U r12.length p))
    refine q_put (by kernel_rfl) (by simp) (by rfl) rfl (by go_simp; try rfl) (((((HS2.out.del 6).del 5).del 4).del 3).del 2) (fun hS => ?_)
    clear f0 f1
    repeat (first | (refine q_go (v := ?_) (by kernel_rfl) (by rfl) (fun _ _ _ h => h) hS ?_ ?_; rotate_left; (focus (intro w hS; obtain ⟨f0, f1⟩ := hS.cells 1 rfl; obtain ⟨p0, p1⟩ := hS.cells 0 rfl; go_simp; first | done | with_reducible rfl)); simp only [Act.put, List.setIfInBounds_toArray, List.set_cons_zero, List.set_cons_succ, Nat.reduceAdd]))
    refine q_done (by kernel_rfl) ?_
    go_wp2
    refine bodyPost_ret (results_list (rs := [.cell 4 28, .cell 5 28, .tmp 6]) rfl (by simp) (.cell g4 28 #[.bool r1, .bool r2, .int .i64 r3, .int .i64 r4, .int .i64 r5, .slice V r6.length q] (0, 0) _ rfl (HS2.out.getB 5 rfl) Tryd.underlying28 rfl (by kernel_rfl) (.cell g5 28 #[.bool r7, .bool r8, .int .i64 r9, .int .i64 r10, .int .i64 r11, .slice U r12.length p] (0, 0) _ rfl (HS2.out.getB 4 rfl) Tryd.underlying28 rfl (by kernel_rfl) (.tmp .nil)))) rfl ?_
    exact ⟨_, _, _, by rfl, HS2.out.getS 2 rfl, Kd.S_mono (HS2.out.getS 3 rfl) (fun k h1 h2 => HS2.out.apart 2 3 rfl rfl (by omega) k h2 h1), HS2.out.below⟩
end Go.Proofs.YtfjkpdhldeopaaaDoor.G

namespace Go.Proofs.YtfjkpdhldeopaaaDoor.G
open Go.RowKit Go.Proofs.YtfjkpdhldeopaaaDoorW.PrintWords Go.Proofs.YtfjkpdhldeopaaaDoorW.PrintLast Go.Proofs.YtfjkpdhldeopaaaDoorW.PrintMore
attribute [local go_sem] max2_int min2_int max_two min_two max_three min_three max_four min_four   -- for this text's walks alone
set_option linter.unusedVariables false
set_option linter.unusedSimpArgs false

def spec_l12Copy.f (a0_0 : Int) (a0_1 : Int) (a0_2 : Bool) (l0_3 : List Int) (a0_4 : Bool) (l0_5 : List Int) : Option (Int × Int × Bool × List Int × Bool × List Int) := (some (([] : List Int) : List Int)).bind fun y119 => (if y119.length + l0_3.length < 17592186044416 then ((some (([] : List Int) : List Int)).bind fun y125 => (if y125.length + l0_5.length < 17592186044416 then (some (a0_0, a0_1, a0_2, (y119 ++ l0_3), a0_4, (y125 ++ l0_5))) else (none))) else (none))
set_option maxHeartbeats 8000000 in
set_option maxRecDepth 100000 in
theorem spec_l12Copy.calls (a0_0 : Int) (a0_1 : Int) (a0_2 : Bool) (A0_3 : Option Addr) (c0_3 : Nat) (l0_3 : List Int) (a0_4 : Bool) (A0_5 : Option Addr) (c0_5 : Nat) (l0_5 : List Int) (r1 : Int) (r2 : Int) (r3 : Bool) (r4 : List Int) (r5 : Bool) (r6 : List Int) (w : World) (hr0_3 : Kd.C (Kd.int .i64) w A0_3 l0_3.length l0_3) (hc0_3 : l0_3.length ≤ c0_3) (hr0_5 : Kd.C (Kd.int .i64) w A0_5 l0_5.length l0_5) (hc0_5 : l0_5.length ≤ c0_5) (h : spec_l12Copy.f a0_0 a0_1 a0_2 l0_3 a0_4 l0_5 = some (r1, r2, r3, r4, r5, r6)) :
  Calls Tryd.prog 45 #[.agg #[.int .i64 a0_0, .int .i64 a0_1, .bool a0_2, .slice A0_3 l0_3.length c0_3, .bool a0_4, .slice A0_5 l0_5.length c0_5]] w fun e w' => ∃ v3_ v5_ : Value, e = .returned (.agg #[.int .i64 r1, .int .i64 r2, .bool r3, v3_, .bool r5, v5_]) ∧ Kd.R (Kd.int .i64) 3 w' w.heap.size (fun k_ => some k_ ≠ (v5_ : Value).ownBlock) v3_ r4 ∧ Kd.R (Kd.int .i64) 3 w' w.heap.size (fun k_ => some k_ ≠ (v3_ : Value).ownBlock) v5_ r6 ∧ Below w.heap.size w w' := by
 have hu62 := Tryd.underlying62
 have HR0_3 := Aside0.mk hr0_3
 have HC0_3 := Aside0.mk hc0_3
 clear hr0_3 hc0_3
 have HR0_5 := Aside0.mk hr0_5
 have HC0_5 := Aside0.mk hc0_5
 clear hr0_5 hc0_5
 have HB := Aside0.mk (Below.refl w.heap.size w)
 have H : ((some (([] : List Int) : List Int)).bind fun y119 => (if y119.length + l0_3.length < 17592186044416 then ((some (([] : List Int) : List Int)).bind fun y125 => (if y125.length + l0_5.length < 17592186044416 then (some (a0_0, a0_1, a0_2, (y119 ++ l0_3), a0_4, (y125 ++ l0_5))) else (none))) else (none))) = some (r1, r2, r3, r4, r5, r6) := h
 clear h
 obtain ⟨y119, hy119⟩ : ∃ y_ : List Int, y_ = (([] : List Int)) := ⟨_, rfl⟩
 replace H : (if y119.length + l0_3.length < 17592186044416 then ((some (([] : List Int) : List Int)).bind fun y125 => (if y125.length + l0_5.length < 17592186044416 then (some (a0_0, a0_1, a0_2, (y119 ++ l0_3), a0_4, (y125 ++ l0_5))) else (none))) else (none)) = some (r1, r2, r3, r4, r5, r6) := by first | (rw [hy119]; with_reducible exact H) | (have H2_ := (Option.bind_some _ _).symm.trans H; rw [hy119]; with_reducible exact H2_) | (have H2_ := (Option.bind_some _ _).symm.trans H; with_reducible exact H2_) | with_reducible exact H | (rw [hy119]; exact H) | exact H
 have Ny119 := Aside0.mk hy119
 clear hy119
 by_cases c2 : y119.length + l0_3.length < 17592186044416
 ·rw [if_pos c2] at H
  have LMc2 := Aside0.mk c2
  clear c2
  obtain ⟨y122, hy122⟩ : ∃ y_ : List Int, y_ = (y119 ++ l0_3) := ⟨_, rfl⟩
  replace H : ((some (([] : List Int) : List Int)).bind fun y125 => (if y125.length + l0_5.length < 17592186044416 then (some (a0_0, a0_1, a0_2, y122, a0_4, (y125 ++ l0_5))) else (none))) = some (r1, r2, r3, r4, r5, r6) := by first | (rw [hy122]; with_reducible exact H) | (have H2_ := (Option.bind_some _ _).symm.trans H; rw [hy122]; with_reducible exact H2_) | (have H2_ := (Option.bind_some _ _).symm.trans H; with_reducible exact H2_) | with_reducible exact H | (rw [hy122]; exact H) | exact H
  have Ny122 := Aside0.mk hy122
  clear hy122
  obtain ⟨y125, hy125⟩ : ∃ y_ : List Int, y_ = (([] : List Int)) := ⟨_, rfl⟩
  replace H : (if y125.length + l0_5.length < 17592186044416 then (some (a0_0, a0_1, a0_2, y122, a0_4, (y125 ++ l0_5))) else (none)) = some (r1, r2, r3, r4, r5, r6) := by first | (rw [hy125]; with_reducible exact H) | (have H2_ := (Option.bind_some _ _).symm.trans H; rw [hy125]; with_reducible exact H2_) | (have H2_ := (Option.bind_some _ _).symm.trans H; with_reducible exact H2_) | with_reducible exact H | (rw [hy125]; exact H) | exact H
  have Ny125 := Aside0.mk hy125
  clear hy125
  by_cases c3 : y125.length + l0_5.length < 17592186044416
  ·rw [if_pos c3] at H
   have LMc3 := Aside0.mk c3
   clear c3
   obtain ⟨y128, hy128⟩ : ∃ y_ : List Int, y_ = (y125 ++ l0_5) := ⟨_, rfl⟩
   replace H : (some (a0_0, a0_1, a0_2, y122, a0_4, y128)) = some (r1, r2, r3, r4, r5, r6) := by first | (rw [hy128]; with_reducible exact H) | (have H2_ := (Option.bind_some _ _).symm.trans H; rw [hy128]; with_reducible exact H2_) | (have H2_ := (Option.bind_some _ _).symm.trans H; with_reducible exact H2_) | with_reducible exact H | (rw [hy128]; exact H) | exact H
   have Ny128 := Aside0.mk hy128
   clear hy128
   simp only [Option.some.injEq, Prod.mk.injEq] at H
   obtain ⟨rfl, rfl, rfl, rfl, rfl, rfl⟩ := H
   go_enter Tryd.func45, Tryd.ntmps45
   go_wp2_with (first | ((with_reducible refine gate_dst (N := 1) rfl ?_); refine box_event ?hg (N := 1) ?hd (cs := #[.int .i64 a0_0, .int .i64 a0_1, .bool a0_2, .slice A0_3 l0_3.length c0_3, .bool a0_4, .slice A0_5 l0_5.length c0_5]) (t := 62) ?hr ?_; (case hd => rfl); (case hg => rfl); (case hr => first | (go_simp; done) | (go_simp; rfl)); intro gb117 hg w4 hbox hb; have BK117 := Aside0.mk (hbox); have GW117 := tge HB hg; have GE117 := tge HB hg; replace HB := tBs HB hb; clear hb hbox hg) | ((with_reducible refine gate_dst (N := 2) rfl ?_); refine box_event ?hg (N := 2) ?hd (cs := #[.int .i64 0, .int .i64 0, .bool false, .slice none 0 0, .bool false, .slice none 0 0]) (t := 62) ?hr ?_; (case hd => rfl); (case hg => rfl); (case hr => first | (go_simp; done) | (go_simp; rfl)); intro gb118 hg w5 hbox hb; have BK118 := Aside0.mk (hbox); have GW118 := tge HB hg; have GE118 := tge HB hg; replace HB := tBs HB hb; have NB117_118 := tlt BK117 hg; have NB118_117 := tgt BK117 hg; replace BK117 := tBb BK117 hb; clear hb hbox hg) | ((with_reducible refine gate_dst (N := 3) rfl ?_); refine Kd.R_lit (Kd.int .i64) _ 3 ?hg (N := 3) ?hd (xs := ([] : List Int)) (inner := []) (ok := fun _ => True) (okp := fun _ => True) ?hr ?hp (fun _ hk => hk) trivial (Below.refl _ _) (Nat.le_refl _) (by simp) ?_; (case hd => rfl); (case hg => rfl); (case hr => first | (go_simp; done) | (go_simp; rfl)); (case hp => exact (Reps.none _ _)); intro v120 w6 ho7 hb hg_ hnew_; clear hg_ hnew_; (first | rw [← Ny119.out] at ho7 | (simp only [Int.reduceToNat] at ho7; rw [← Ny119.out] at ho7)); have HO121 := tRl ho7 HB; replace BK117 := tBb BK117 hb; replace BK118 := tBb BK118 hb; replace HB := tBs HB hb; clear hb ho7; have hnb8 := NB117_118.out; have hnc8 := NB118_117.out; obtain ⟨hcz9_0, hcz9_1, hcz9_2, hcz9_3, hcz9_4, hcz9_5, hfz9_0, hfz9_1, hfz9_2, hfz9_3, hfz9_4, hfz9_5⟩ := cells6 BK117.out) | ((with_reducible refine gate_builtin (b := .append) (xs := #[.tmp 3, .tmp 5]) rfl ?_); at_builtin; refine Kd.R_append_rows (Kd.int .i64) (w0 := w) w.heap.size rfl (.tmp 3) (.tmp 5) 60 3 (.int .i64 0) 8 rfl Tryd.underlying60 info3 rfl (by decide) (by omega) v120 y119 l0_3 _ _ _ (fun _ => True) (fun _ => False) rfl rfl ?aO ?aR (fun _ _ h => h) (fun _ h => h.elim) ?aF ?aB ?aS ?aL ?_; (case aR => exact tC (Kd.C_below HR0_3.out HB.out)); (case aB => exact zb); (case aF => exact (fun _ _ => trivial)); (case aO => exact (tR HO121.out)); (case aS => exact (below_size zb)); (case aL => have := LMc2.out; omega); intro v123 w10 ho hb hg hat; rw [← Ny122.out] at ho; replace BK117 := Aside0.mk (blk_grown (tH BK117.out) hg (Kd.R_ne HO121.out BK117.out (by decide))); replace BK118 := Aside0.mk (blk_grown (tH BK118.out) hg (Kd.R_ne HO121.out BK118.out (by decide))); replace HB := Aside0.mk (hb); have HO124 := Aside0.mk (ho); clear HO121; clear ho hb hg hat; obtain ⟨Ao11, co11, eo11⟩ := Kd.R_slice HO124.out; subst eo11; obtain ⟨hcz12_0, hcz12_1, hcz12_2, hcz12_3, hcz12_4, hcz12_5, hfz12_0, hfz12_1, hfz12_2, hfz12_3, hfz12_4, hfz12_5⟩ := cells6 BK117.out) | ((with_reducible refine gate_dst (N := 8) rfl ?_); refine Kd.R_lit (Kd.int .i64) _ 3 ?hg (N := 8) ?hd (xs := ([] : List Int)) (inner := []) (ok := fun _ => True) (okp := fun _ => True) ?hr ?hp (fun _ hk => hk) trivial (Below.refl _ _) (Nat.le_refl _) (by simp) ?_; (case hd => rfl); (case hg => rfl); (case hr => first | (go_simp; done) | (go_simp; rfl)); (case hp => exact (Reps.none _ _)); intro v126 w13 ho14 hb hg_ hnew_; clear hg_ hnew_; (first | rw [← Ny125.out] at ho14 | (simp only [Int.reduceToNat] at ho14; rw [← Ny125.out] at ho14)); have HO127 := Aside0.mk (Kd.R_lower (Kd.R_new' ho14 (Kd.R_lt (tRt HO124.out BK117.out))) (below_size zb)); replace HO124 := Aside0.mk (Kd.R_elder' (tRt HO124.out BK117.out) (Kd.R_base ho14) hb); replace BK117 := tBp (o' := .cells #[.int .i64 a0_0, .int .i64 a0_1, .bool a0_2, .slice Ao11 y122.length co11, .bool a0_4, .slice A0_5 l0_5.length c0_5] 62 (0, 0)) BK117 hb; replace BK118 := tBb BK118 hb; replace HB := tBs HB hb; clear hb ho14; obtain ⟨hcz15_0, hcz15_1, hcz15_2, hcz15_3, hcz15_4, hcz15_5, hfz15_0, hfz15_1, hfz15_2, hfz15_3, hfz15_4, hfz15_5⟩ := cells6 BK117.out) | ((with_reducible refine gate_builtin (b := .append) (xs := #[.tmp 8, .tmp 10]) rfl ?_); at_builtin; refine Kd.R_append_rows (Kd.int .i64) (w0 := w) w.heap.size rfl (.tmp 8) (.tmp 10) 60 3 (.int .i64 0) 8 rfl Tryd.underlying60 info3 rfl (by decide) (by omega) v126 y125 l0_5 _ _ _ (fun k_ => some k_ ≠ (.slice Ao11 y122.length co11 : Value).ownBlock) (fun _ => False) rfl rfl ?aO ?aR (fun _ _ h => h) (fun _ h => h.elim) ?aF ?aB ?aS ?aL ?_; (case aR => exact tC (Kd.C_below HR0_5.out HB.out)); (case aB => exact zb); (case aF => exact (fun k_ hk => Kd.fresh' (Kd.R_lt (tR HO124.out)) k_ hk)); (case aO => exact (tRm HO127.out)); (case aS => exact (below_size zb)); (case aL => have := LMc3.out; omega); intro v129 w16 ho hb hg hat; rw [← Ny128.out] at ho; replace BK117 := Aside0.mk (blk_grown (tH BK117.out) hg (Kd.R_ne HO127.out BK117.out (by decide))); replace BK118 := Aside0.mk (blk_grown (tH BK118.out) hg (Kd.R_ne HO127.out BK118.out (by decide))); replace HO124 := Aside0.mk (Kd.R_after (ok := (fun _ => True)) (tR HO124.out) hg hat); replace HB := Aside0.mk (hb); have HO130 := Aside0.mk (ho); clear HO127; clear ho hb hg hat; obtain ⟨Ao17, co17, eo17⟩ := Kd.R_slice HO130.out; subst eo17; obtain ⟨hcz18_0, hcz18_1, hcz18_2, hcz18_3, hcz18_4, hcz18_5, hfz18_0, hfz18_1, hfz18_2, hfz18_3, hfz18_4, hfz18_5⟩ := cells6 BK117.out; obtain ⟨hcz19_0, hcz19_1, hcz19_2, hcz19_3, hcz19_4, hcz19_5, hfz19_0, hfz19_1, hfz19_2, hfz19_3, hfz19_4, hfz19_5⟩ := cells6 BK118.out))
   refine bodyPost_ret (results_cell_row rfl _ _ gb118 62 #[.int .i64 a0_0, .int .i64 a0_1, .bool a0_2, .slice Ao11 y122.length co11, .bool a0_4, .slice Ao17 y128.length co17] (0, 0) _ rfl (tP BK118.out) Tryd.underlying62 rfl (by kernel_rfl)) rfl ?_
   exact ⟨_, _, by first | rfl | (simp [errW_none, errW_some] <;> rfl) | (simp [*, errW_none, errW_some] <;> rfl), tRm (Kd.R_types (Kd.R_types HO124.out BK117.out (by decide)) BK118.out (by decide)), tRm (Kd.R_types (Kd.R_types HO130.out BK117.out (by decide)) BK118.out (by decide)), zb⟩
  ·rw [if_neg c3] at H
   exact absurd H (by simp)
 ·rw [if_neg c2] at H
  exact absurd H (by simp)

def spec_l31Free.l0 : Nat → List (S62) → Int → Bool → Bool → Int → Int → Int → List (S62) → Option (Bool × Bool × Int × Int × Int × (List (S62)))
 | 0, _, _, _, _, _, _, _, _ => none
 | k + 1, x1, x6, x136000, x136001, x136002, x136003, x136004, x136005 => if x6 < (x1.length : Int) then (if 0 ≤ x6 then ((spec_l12Copy.f ((rd_T62 x1 x6).f0) ((rd_T62 x1 x6).f1) ((rd_T62 x1 x6).f2) ((rd_T62 x1 x6).f3) ((rd_T62 x1 x6).f4) ((rd_T62 x1 x6).f5)).bind fun bt137 => (if x136005.length < 1759218604441 then (spec_l31Free.l0 k x1 (wrap64 (x6 + 1)) x136000 x136001 x136002 x136003 x136004 (x136005 ++ [(⟨bt137.1, bt137.2.1, bt137.2.2.1, bt137.2.2.2.1, bt137.2.2.2.2.1, bt137.2.2.2.2.2⟩ : S62)])) else (none))) else (none)) else (some (x136000, x136001, x136002, x136003, x136004, x136005))
def spec_l31Free.f (k : Nat) (a0 : Bool) (l1 : List (S62)) : Option (Bool × Bool × Int × Int × Int × (List (S62))) := spec_l31Free.l0 k l1 0 a0 false 255 0 0 (([] : List (S62)))
def spec_l31Free.T5 : Bool × List (List Nat × List Nat) := (true, [([], []), ([0], [0]), ([], []), ([], []), ([2, 3], [2, 3]), ([4], [4]), ([5], [5]), ([6], [6]), ([1, 7, 6], [1, 7]), ([0, 1, 2, 3, 4, 5, 6, 7, 8], []), ([9, 8, 8, 0, 1, 2, 3, 4, 5, 6, 7, 8], [8, 9])])
def spec_l31Free.B5 : List Nat := [0, 1, 0, 0, 12, 28, 60, 124, 255, 511, 1023]
theorem spec_l31Free.tab5 : rtab .any (opsOf Tryd.f27 5) = spec_l31Free.T5 := by kernel_rfl
theorem spec_l31Free.bits5 : waitsOk spec_l31Free.T5.2 spec_l31Free.B5 = true := by kernel_rfl
set_option maxHeartbeats 8000000 in
set_option maxRecDepth 100000 in
theorem spec_l31Free.calls (k : Nat) (a0 : Bool) (A1 : Option Addr) (c1 : Nat) (l1 : List (S62)) (r1 : Bool) (r2 : Bool) (r3 : Int) (r4 : Int) (r5 : Int) (r6 : List (S62)) (w : World) (hr1 : Kd.C k62 w A1 l1.length l1) (hc1 : l1.length ≤ c1) (h : spec_l31Free.f k a0 l1 = some (r1, r2, r3, r4, r5, r6)) :
  Calls Tryd.prog 27 #[.bool a0, .slice A1 l1.length c1] w fun e w' => ∃ v5_ : Value, e = .returned (.agg #[.bool r1, .bool r2, .int .i64 r3, .int .i64 r4, .int .i64 r5, v5_]) ∧ Kd.S k62 62 w' w.heap.size (fun _ => True) v5_ r6 ∧ Below w.heap.size w w' := by
 have hu28 := Tryd.underlying28
 have hu62 := Tryd.underlying62
 have HR1 := Aside0.mk hr1
 have HC1 := Aside0.mk hc1
 clear hr1 hc1
 have HB := Aside0.mk (Below.refl w.heap.size w)
 have H : (spec_l31Free.l0 k l1 0 a0 false 255 0 0 (([] : List (S62)))) = some (r1, r2, r3, r4, r5, r6) := h
 clear h
 obtain ⟨y132, hy132⟩ : ∃ y_ : List (S62), y_ = (([] : List (S62))) := ⟨_, rfl⟩
 replace H : (spec_l31Free.l0 k l1 0 a0 false 255 0 0 y132) = some (r1, r2, r3, r4, r5, r6) := by first | (rw [hy132]; with_reducible exact H) | (have H2_ := (Option.bind_some _ _).symm.trans H; rw [hy132]; with_reducible exact H2_) | (have H2_ := (Option.bind_some _ _).symm.trans H; with_reducible exact H2_) | with_reducible exact H | (rw [hy132]; exact H) | exact H
 have Ny132 := Aside0.mk hy132
 clear hy132
 have H' := Aside0.mk H
 clear H
 go_enter Tryd.func27, Tryd.ntmps27
 go_wp2_with (first | ((with_reducible refine gate_dst (N := 4) rfl ?_); refine box_event ?hg (N := 4) ?hd (cs := #[.bool false, .bool false, .int .i64 0, .int .i64 0, .int .i64 0, .slice none 0 0]) (t := 28) ?hr ?_; (case hd => rfl); (case hg => rfl); (case hr => first | (go_simp; done) | (go_simp; rfl)); intro gb131 hg w3 hbox hb; have BK131 := Aside0.mk (hbox); have GW131 := tge HB hg; have GE131 := tge HB hg; replace HB := tBs HB hb; clear hb hbox hg) | ((with_reducible refine gate_dst (N := 8) rfl ?_); refine Kd.S_lit k62 _ 62 ?hg (N := 8) ?hd (xs := ([] : List (S62))) (inner := []) (ok := fun _ => True) (okp := fun _ => True) ?hr ?hp (fun _ hk => hk) trivial (Below.refl _ _) (Nat.le_refl _) (by simp) ?_; (case hd => rfl); (case hg => rfl); (case hr => first | (go_simp; done) | (go_simp; rfl)); (case hp => exact (Reps.none _ _)); intro v133 w4 ho5 hb hg_ hnew_; clear hg_ hnew_; (first | rw [← Ny132.out] at ho5 | (simp only [Int.reduceToNat] at ho5; rw [← Ny132.out] at ho5)); have HO134 := tSl ho5 HB; replace BK131 := tBb BK131 hb; replace HB := tBs HB hb; clear hb ho5; obtain ⟨Ao6, co6, eo6⟩ := Kd.S_slice HO134.out; subst eo6) | ((with_reducible refine gate_dst (N := 5) rfl ?_); refine box_event ?hg (N := 5) ?hd (cs := #[.bool false, .bool false, .int .i64 0, .int .i64 0, .int .i64 0, .slice none 0 0]) (t := 28) ?hr ?_; (case hd => rfl); (case hg => rfl); (case hr => first | (go_simp; done) | (go_simp; rfl)); intro gb135 hg w7 hbox hb; replace HO134 := tSb HO134 hb; have BK135 := Aside0.mk (hbox); have GW135 := tge HB hg; have GE135 := tge HB hg; replace HB := tBs HB hb; have NB131_135 := tlt BK131 hg; have NB135_131 := tgt BK131 hg; replace BK131 := tBb BK131 hb; clear hb hbox hg; have hnb8 := NB135_131.out; have hnc8 := NB131_135.out; obtain ⟨hcz9_0, hcz9_1, hcz9_2, hcz9_3, hcz9_4, hcz9_5, hfz9_0, hfz9_1, hfz9_2, hfz9_3, hfz9_4, hfz9_5⟩ := cells6 BK135.out))
 go_loopg [6] k (fun kq v6 w' => ∃ (x6_1 : Int) (x136005_1 : List (S62)) (u136005 : Value), v6 = .int .i64 x6_1 ∧ Aside0 (spec_l31Free.l0 kq l1 x6_1 a0 false 255 0 0 x136005_1 = some (r1, r2, r3, r4, r5, r6)) ∧ Aside0 (kq ≤ k) ∧ Aside0 (Kd.S k62 62 w' w.heap.size (fun _ => True) u136005 x136005_1) ∧ Aside0 (w'.heap[gb131]? = some (.cells #[.bool false, .bool false, .int .i64 0, .int .i64 0, .int .i64 0, (.slice none 0 0)] 28 (0, 0))) ∧ Aside0 (w'.heap[gb135]? = some (.cells #[.bool a0, .bool false, .int .i64 255, .int .i64 0, .int .i64 0, u136005] 28 (0, 0))) ∧ Aside0 (Below w.heap.size w w'))
 case atStart => exact ⟨(0), (y132), (.slice Ao6 y132.length co6), tr, H', ⟨Nat.le_refl _⟩, ⟨tSm (Kd.S_types HO134.out BK135.out (by decide))⟩, ⟨tH BK131.out⟩, ⟨tP BK135.out⟩, ⟨zb⟩⟩
 case round =>
  clear H'
  try clear c1; try clear hcz9_0; try clear hcz9_1; try clear hcz9_2; try clear hcz9_3; try clear hcz9_4; try clear hcz9_5; try clear hfz9_0; try clear hfz9_1; try clear hfz9_2; try clear hfz9_3; try clear hfz9_4; try clear hfz9_5
  obtain ⟨x6_1, x136005_1, u136005, rfl, HA, HK1, HO_136005, BK131, BK135, HB⟩ := hrel
  cases gk with
  | zero => exact absurd HA.out (by simp [spec_l31Free.l0])
  | succ k1 =>
   have H := HA.out
   clear HA
   simp only [spec_l31Free.l0] at H
   by_cases c10 : x6_1 < (l1.length : Int)
   ·rw [if_pos c10] at H
    have c10b0 : decide (x6_1 < (l1.length : Int)) = true := decide_eq_true c10
    clear c10
    by_cases c11 : 0 ≤ x6_1
    ·rw [if_pos c11] at H
     have c11b0 : decide (0 ≤ x6_1) = true := decide_eq_true c11
     clear c11
     replace H := tbe H
     obtain ⟨⟨t137, t138, t139, t140, t143, t144⟩, A12, H⟩ := H
     dsimp only at H
     by_cases c13 : x136005_1.length < 1759218604441
     ·rw [if_pos c13] at H
      have LMc13 := Aside0.mk c13
      clear c13
      obtain ⟨y147, hy147⟩ : ∃ y_ : List (S62), y_ = (x136005_1 ++ [(⟨t137, t138, t139, t140, t143, t144⟩ : S62)]) := ⟨_, rfl⟩
      replace H : (spec_l31Free.l0 k1 l1 (wrap64 (x6_1 + 1)) a0 false 255 0 0 y147) = some (r1, r2, r3, r4, r5, r6) := by first | (rw [hy147]; with_reducible exact H) | (have H2_ := (Option.bind_some _ _).symm.trans H; rw [hy147]; with_reducible exact H2_) | (have H2_ := (Option.bind_some _ _).symm.trans H; with_reducible exact H2_) | with_reducible exact H | (rw [hy147]; exact H) | exact H
      have Ny147 := Aside0.mk hy147
      clear hy147
      have H' := Aside0.mk H
      clear H
      try go_wp2
      replace HO_136005 := Aside0.mk (Kd.S_drew HO_136005.out)
      replace BK131 := Aside0.mk (blk_drew BK131.out)
      replace BK135 := Aside0.mk (blk_drew BK135.out)
      replace HB := Aside0.mk (below_drew1 HB.out)
      have p136 : 0 ≤ (x6_1 : Int) := td
      have q136 : x6_1 < (l1.length : Int) := td
      obtain ⟨ad136, A136_3, c136_3, A136_5, c136_5, e136, hx136_0, hx136_1, hx136_2, hx136_3, hx136_4, hx136_5, hl136_3, hi136_3, hl136_5, hi136_5⟩ := at_T62 HR1.out x6_1 p136 q136
      have hw136_5 := hx136_5
      have hw136_4 := hx136_4
      have hw136_3 := hx136_3
      have hw136_2 := hx136_2
      have hw136_1 := hx136_1
      have hw136_0 := hx136_0
      cases e136
      replace hx136_0 := tcl HB hx136_0
      replace hx136_1 := tcl HB hx136_1
      replace hx136_2 := tcl HB hx136_2
      replace hx136_3 := tcl HB hx136_3
      replace hx136_4 := tcl HB hx136_4
      replace hx136_5 := tcl HB hx136_5
      have HR136_3 := Aside0.mk hi136_3
      have HC136_3 := Aside0.mk hl136_3
      clear hi136_3 hl136_3
      have HR136_5 := Aside0.mk hi136_5
      have HC136_5 := Aside0.mk hl136_5
      clear hi136_5 hl136_5
      replace p136 := eq_true p136
      replace q136 := eq_true q136
      refine start_ (n := 11) (S := fun w' => w'.cell? ⟨gb135, 0, none⟩ = some (.bool a0) ∧ w'.cell? ⟨gb135, 1, none⟩ = some (.bool false) ∧ w'.cell? ⟨gb135, 2, none⟩ = some (.int .i64 255) ∧ w'.cell? ⟨gb135, 3, none⟩ = some (.int .i64 0) ∧ w'.cell? ⟨gb135, 4, none⟩ = some (.int .i64 0) ∧ w'.cell? ⟨gb135, 5, none⟩ = some (u136005) ∧ w'.cell? (ad136.add ((x6_1).toNat * 6)) = some (.int .i64 ((rd_T62 l1 x6_1).f0)) ∧ w'.cell? ⟨(ad136.add ((x6_1).toNat * 6)).block, (ad136.add ((x6_1).toNat * 6)).off + 1, none⟩ = some (.int .i64 ((rd_T62 l1 x6_1).f1)) ∧ w'.cell? ⟨(ad136.add ((x6_1).toNat * 6)).block, (ad136.add ((x6_1).toNat * 6)).off + 2, none⟩ = some (.bool ((rd_T62 l1 x6_1).f2)) ∧ w'.cell? ⟨(ad136.add ((x6_1).toNat * 6)).block, (ad136.add ((x6_1).toNat * 6)).off + 3, none⟩ = some (.slice A136_3 ((rd_T62 l1 x6_1).f3).length c136_3) ∧ w'.cell? ⟨(ad136.add ((x6_1).toNat * 6)).block, (ad136.add ((x6_1).toNat * 6)).off + 4, none⟩ = some (.bool ((rd_T62 l1 x6_1).f4)) ∧ w'.cell? ⟨(ad136.add ((x6_1).toNat * 6)).block, (ad136.add ((x6_1).toNat * 6)).off + 5, none⟩ = some (.slice A136_5 ((rd_T62 l1 x6_1).f5).length c136_5)) (ds := [10]) #[false, false, false, false, false, false, false, false, false, false, false] (by kernel_rfl) rfl rfl ⟨(blk_cell BK135.out 0).trans rfl, (blk_cell BK135.out 1).trans rfl, (blk_cell BK135.out 2).trans rfl, (blk_cell BK135.out 3).trans rfl, (blk_cell BK135.out 4).trans rfl, (blk_cell BK135.out 5).trans rfl, (tcl HB hw136_0), (tcl HB hw136_1), (tcl HB hw136_2), (tcl HB hw136_3), (tcl HB hw136_4), (tcl HB hw136_5)⟩ (fun hHeld => ?_); refine with_tabW spec_l31Free.tab5 spec_l31Free.bits5 (fun HT_ HW_ => ?_)
      generalize wr.drew = w14 at HO_136005 BK131 BK135 HB HR136_3 HR136_5 hx136_0 hx136_1 hx136_2 hx136_3 hx136_4 hx136_5 hHeld ⊢
      refine tpu 0 (some 16) #[true, false, false, false, false, false, false, false, false, false, false] ?_
      refine tpu 2 (some 18) #[true, false, true, false, false, false, false, false, false, false, false] ?_
      refine tpu 3 (some 19) #[true, false, true, true, false, false, false, false, false, false, false] ?_
      refine tpu 4 (some 20) #[true, false, true, true, true, false, false, false, false, false, false] ?_
      refine tta 1 (some 17) #[true, true, true, true, true, false, false, false, false, false, false] hHeld ?_ (hy := by rintro w' ⟨s0, s1, s2, s3, s4, s5, s6, s7, s8, s9, s10, s11⟩; go_simp; with_reducible rfl)
      refine tta 5 (some 21) #[true, true, true, true, true, true, false, false, false, false, false] hHeld ?_ (hy := by rintro w' ⟨s0, s1, s2, s3, s4, s5, s6, s7, s8, s9, s10, s11⟩; go_simp; with_reducible rfl)
      refine one_ (i := 6) (N := some 22) #[true, true, true, true, true, true, true, false, false, false, false] rfl rfl (one_of HT_.out (by kernel_rfl)) (by decide) (fun K hK => ?_)
      refine goes_ Tryd.func45 (by kernel_rfl) rfl #[.agg #[.int .i64 ((rd_T62 l1 x6_1).f0), .int .i64 ((rd_T62 l1 x6_1).f1), .bool ((rd_T62 l1 x6_1).f2), .slice A136_3 ((rd_T62 l1 x6_1).f3).length c136_3, .bool ((rd_T62 l1 x6_1).f4), .slice A136_5 ((rd_T62 l1 x6_1).f5).length c136_5]] (by rfl) rfl rfl tq ?_
      with_reducible refine (spec_l12Copy.calls ((rd_T62 l1 x6_1).f0) ((rd_T62 l1 x6_1).f1) ((rd_T62 l1 x6_1).f2) _ _ ((rd_T62 l1 x6_1).f3) ((rd_T62 l1 x6_1).f4) _ _ ((rd_T62 l1 x6_1).f5) t137 t138 t139 t140 t143 t144 _ ?side1 ?side2 ?side3 ?side4 A12.out).mono ?_
      (case side1 => exact tC (Kd.C_below HR136_3.out HB.out))
      (case side2 => exact HC136_3.out)
      (case side3 => exact tC (Kd.C_below HR136_5.out HB.out))
      (case side4 => exact HC136_5.out)
      rintro e w15 ⟨v141, v145, rfl, ho0, ho1, hb⟩
      refine ⟨_, rfl, ?_⟩
      replace HO_136005 := Aside0.mk (Kd.S_mono (Kd.S_told (Kd.S_told (Kd.S_old (tS HO_136005.out) hb) (Kd.R_base ho0)) (Kd.R_base ho1)) (fun _ h_ => h_.1))
      have HO142 := tRl ho0 HB
      have HO146 := tRl ho1 HB
      replace BK131 := tBb BK131 hb
      replace BK135 := tBb BK135 hb
      replace HB := tBs HB hb
      (try clear hb)
      (try clear hb2)
      (try clear hk)
      (try clear hi)
      (try clear ho0)
      (try clear ho1)
      obtain ⟨Ao17, co17, eo17⟩ := Kd.R_slice HO142.out
      (first | subst eo17 | (injection eo17 with f1_ f2_ f3_; have f4_ := f1_.symm; have f5_ := f3_.symm; clear f1_ f2_ f3_; subst f4_; subst f5_))
      obtain ⟨Ao18, co18, eo18⟩ := Kd.R_slice HO146.out
      (first | subst eo18 | (injection eo18 with f1_ f2_ f3_; have f4_ := f1_.symm; have f5_ := f3_.symm; clear f1_ f2_ f3_; subst f4_; subst f5_))
      refine hK.out _ _ ⟨(blk_cell BK135.out 0).trans rfl, (blk_cell BK135.out 1).trans rfl, (blk_cell BK135.out 2).trans rfl, (blk_cell BK135.out 3).trans rfl, (blk_cell BK135.out 4).trans rfl, (blk_cell BK135.out 5).trans rfl, (tcl HB hw136_0), (tcl HB hw136_1), (tcl HB hw136_2), (tcl HB hw136_3), (tcl HB hw136_4), (tcl HB hw136_5)⟩ (fun hHeld => ?_)
      clear hK K
      refine tnm (some 22) ?_
      refine one_ (i := 7) (N := some 23) #[true, true, true, true, true, true, true, true, false, false, false] rfl rfl (one_of HT_.out (by kernel_rfl)) (by decide) (fun K hK => ?_)
      refine value_ (w1 := ?_) (v := ?_) (by rfl) rfl ?_ ?_
      rotate_left 2
      ·go_simp
       constructor
       ·rfl
       ·rfl
      refine hK.out _ _ ⟨(blk_cell (blk_alloc BK135.out _) 0).trans rfl, (blk_cell (blk_alloc BK135.out _) 1).trans rfl, (blk_cell (blk_alloc BK135.out _) 2).trans rfl, (blk_cell (blk_alloc BK135.out _) 3).trans rfl, (blk_cell (blk_alloc BK135.out _) 4).trans rfl, (blk_cell (blk_alloc BK135.out _) 5).trans rfl, (World.cell?_alloc_lt _ _ _ (World.block_lt_of_cell? _ _ ((tcl HB hw136_0)))).trans ((tcl HB hw136_0)), (World.cell?_alloc_lt _ _ _ (World.block_lt_of_cell? _ _ ((tcl HB hw136_1)))).trans ((tcl HB hw136_1)), (World.cell?_alloc_lt _ _ _ (World.block_lt_of_cell? _ _ ((tcl HB hw136_2)))).trans ((tcl HB hw136_2)), (World.cell?_alloc_lt _ _ _ (World.block_lt_of_cell? _ _ ((tcl HB hw136_3)))).trans ((tcl HB hw136_3)), (World.cell?_alloc_lt _ _ _ (World.block_lt_of_cell? _ _ ((tcl HB hw136_4)))).trans ((tcl HB hw136_4)), (World.cell?_alloc_lt _ _ _ (World.block_lt_of_cell? _ _ ((tcl HB hw136_5)))).trans ((tcl HB hw136_5))⟩ (fun hHeld => ?_)
      clear hK K
      refine tnm (some 23) ?_
      refine one_ (i := 8) (N := some 24) #[true, true, true, true, true, true, true, true, true, false, false] rfl rfl (one_of HT_.out (by kernel_rfl)) (by decide) (fun K hK => ?_)
      refine Kd.S_append_step k62 (w0 := w) w.heap.size (by rfl) (.tmp 17) (.tmp 23) 26 62 (.agg #[(.int .i64 0), (.int .i64 0), (.bool false), (.slice none 0 0), (.bool false), (.slice none 0 0)]) 80 rfl Tryd.underlying26 info62 rfl (by decide) (by omega) u136005 x136005_1 (⟨t137, t138, t139, t140, t143, t144⟩ : S62) [.int .i64 t137, .int .i64 t138, .bool t139, .slice Ao17 t140.length co17, .bool t143, .slice Ao18 t144.length co18] (fun _ => True) (fun k_ => some k_ = (.slice Ao17 t140.length co17 : Value).ownBlock ∨ some k_ = (.slice Ao18 t144.length co18 : Value).ownBlock) rfl rfl ?aP (fun k_ hk_ => hk_.elim (fun h_ => ((Kd.R_mono (ok' := fun k_ => ((fun _ => True)) k_ ∧ some k_ ≠ (u136005 : Value).ownBlock) (Kd.R_apart' (HO142.out) (Kd.S_typed HO_136005.out) (by decide)) (fun k_ hk => ⟨trivial, hk.2⟩))).1 k_ h_.symm) (fun h_ => ((Kd.R_mono (ok' := fun k_ => ((fun _ => True)) k_ ∧ some k_ ≠ (u136005 : Value).ownBlock) (Kd.R_apart' (HO146.out) (Kd.S_typed HO_136005.out) (by decide)) (fun k_ hk => ⟨trivial, hk.2⟩))).1 k_ h_.symm)) ?aF ?aO ?aB ?aS ?aL ?_
      (case aP => exact k62_mkM _ _ _ (⟨t137, t138, t139, t140, t143, t144⟩ : S62) (Kd.R_mono (Kd.R_tight rfl (Kd.R_mono (ok' := fun k_ => ((fun _ => True)) k_ ∧ some k_ ≠ (u136005 : Value).ownBlock) (Kd.R_apart' (HO142.out) (Kd.S_typed HO_136005.out) (by decide)) (fun k_ hk => ⟨trivial, hk.2⟩))) (fun _ h_ => Or.inl h_)) (Kd.R_mono (Kd.R_tight rfl (Kd.R_mono (ok' := fun k_ => ((fun _ => True)) k_ ∧ some k_ ≠ (u136005 : Value).ownBlock) (Kd.R_apart' (HO146.out) (Kd.S_typed HO_136005.out) (by decide)) (fun k_ hk => ⟨trivial, hk.2⟩))) (fun _ h_ => Or.inr (h_))))
      (case aB => exact zb)
      (case aF => exact (fun _ _ => trivial))
      (case aO => exact (tSm HO_136005.out))
      (case aS => exact (below_size zb))
      (case aL => have := LMc13.out; omega)
      intro v148 w16 ho hb hg hat
      rw [← Ny147.out] at ho
      replace BK131 := Aside0.mk (blk_grown (tH BK131.out) hg (Kd.S_ne HO_136005.out BK131.out (by decide)))
      replace BK135 := Aside0.mk (blk_grown (tH BK135.out) hg (Kd.S_ne HO_136005.out BK135.out (by decide)))
      replace HB := Aside0.mk (hb)
      have HO149 := Aside0.mk (ho)
      clear HO_136005 HO142 HO146
      clear ho hb hg hat
      obtain ⟨Ao19, co19, eo19⟩ := Kd.S_slice HO149.out
      (first | subst eo19 | (injection eo19 with f1_ f2_ f3_; have f4_ := f1_.symm; have f5_ := f3_.symm; clear f1_ f2_ f3_; subst f4_; subst f5_))
      refine hK.out _ _ ⟨(blk_cell BK135.out 0).trans rfl, (blk_cell BK135.out 1).trans rfl, (blk_cell BK135.out 2).trans rfl, (blk_cell BK135.out 3).trans rfl, (blk_cell BK135.out 4).trans rfl, (blk_cell BK135.out 5).trans rfl, (tcl HB hw136_0), (tcl HB hw136_1), (tcl HB hw136_2), (tcl HB hw136_3), (tcl HB hw136_4), (tcl HB hw136_5)⟩ (fun hHeld => ?_)
      clear hK K
      refine tnm (some 24) ?_
      refine tpu 9 (some 25) #[true, true, true, true, true, true, true, true, true, true, false] ?_
      refine last_ (i := 10) (N := none) #[true, true, true, true, true, true, true, true, true, true, true] rfl rfl (one_of HT_.out (by kernel_rfl)) (by decide) (fun K hK => ?_)
      have hs20 : w16.cell? ⟨gb135, 5, none⟩ = some (u136005) := (blk_cell BK135.out 5).trans rfl
      have hfs20 := blk_frozen BK135.out 5
      have hns20_0 := NB131_135.out
      have hms20_0 := NB135_131.out
      refine tsk ?_
      refine hK.out _ _ ?_
      clear hK K
      refine done_ (done_of HT_.out (by kernel_rfl)) ?_
      try go_wp2
      go_roundg k1
      case measure => have := HK1.out; omega
      case rel => exact ⟨(wrap64 (x6_1 + 1)), (y147), (.slice Ao19 y147.length co19), tr, H', ⟨by have := HK1.out; omega⟩, ⟨tSm (Kd.S_types HO149.out BK135.out (by decide))⟩, ⟨tH BK131.out⟩, ⟨tP BK135.out⟩, ⟨zb⟩⟩
     ·rw [if_neg c13] at H
      exact absurd H (by simp)
    ·rw [if_neg c11] at H
     exact absurd H (by simp)
   ·rw [if_neg c10] at H
    have c10b0 : decide (x6_1 < (l1.length : Int)) = false := decide_eq_false c10
    clear c10
    simp only [Option.some.injEq, Prod.mk.injEq] at H
    obtain ⟨rfl, rfl, rfl, rfl, rfl, rfl⟩ := H
    have hnb21 := NB135_131.out
    have hnc21 := NB131_135.out
    obtain ⟨hcz22_0, hcz22_1, hcz22_2, hcz22_3, hcz22_4, hcz22_5, hfz22_0, hfz22_1, hfz22_2, hfz22_3, hfz22_4, hfz22_5⟩ := cells6 BK135.out
    obtain ⟨hcz23_0, hcz23_1, hcz23_2, hcz23_3, hcz23_4, hcz23_5, hfz23_0, hfz23_1, hfz23_2, hfz23_3, hfz23_4, hfz23_5⟩ := cells6 BK131.out
    obtain ⟨Ao24, co24, eo24⟩ := Kd.S_slice HO_136005.out
    subst eo24
    go_wp2
    refine bodyPost_ret (results_cell_row rfl _ _ gb131 28 #[.bool a0, .bool false, .int .i64 255, .int .i64 0, .int .i64 0, .slice Ao24 x136005_1.length co24] (0, 0) _ rfl (tP BK131.out) Tryd.underlying28 rfl (by kernel_rfl)) rfl ?_
    exact ⟨_, by first | rfl | (simp [errW_none, errW_some] <;> rfl) | (simp [*, errW_none, errW_some] <;> rfl), tSm (Kd.S_types HO_136005.out BK131.out (by decide)), zb⟩

end Go.Proofs.YtfjkpdhldeopaaaDoor.G

namespace Go.Proofs.YtfjkpdhldeopaaaDoor.G
open Go.RowKit Go.Proofs.YtfjkpdhldeopaaaDoorW.PrintWords Go.Proofs.YtfjkpdhldeopaaaDoorW.PrintLast Go.Proofs.YtfjkpdhldeopaaaDoorW.PrintMore Go.Proofs.YtfjkpdhldeopaaaDoor.Pu
set_option linter.unusedVariables false
set_option linter.unusedSimpArgs false
/-- The cells that hold a record. -/
def CellsR (W : World) (p : Addr) (r : S62) (A3 : Option Addr) (c3 : Nat) (A5 : Option Addr) (c5 : Nat) : Prop :=
  W.cell? p = some (.int .i64 r.f0) ∧ W.cell? ⟨p.block, p.off + 1, none⟩ = some (.int .i64 r.f1) ∧ W.cell? ⟨p.block, p.off + 2, none⟩ = some (.bool r.f2) ∧ W.cell? ⟨p.block, p.off + 3, none⟩ = some (.slice A3 r.f3.length c3) ∧ W.cell? ⟨p.block, p.off + 4, none⟩ = some (.bool r.f4) ∧ W.cell? ⟨p.block, p.off + 5, none⟩ = some (.slice A5 r.f5.length c5)
theorem CellsR.below {W W' : World} {p : Addr} {r : S62} {A3 A5 : Option Addr} {c3 c5 : Nat} (h : CellsR W p r A3 c3 A5 c5) (hb : Below W.heap.size W W') : CellsR W' p r A3 c3 A5 c5 := ⟨pw_cell_below hb h.1, pw_cell_below hb h.2.1, pw_cell_below hb h.2.2.1, pw_cell_below hb h.2.2.2.1, pw_cell_below hb h.2.2.2.2.1, pw_cell_below hb h.2.2.2.2.2⟩
theorem in_q (a b c : Int) (w : World) : Calls Tryd.prog 44 #[.int .i64 a, .int .i64 b, .int .i64 c] w fun e w' => e = .returned (.bool (decide (b ≤ a) && decide (a ≤ c))) ∧ ∃ n, w' = w.drewN n :=
  (spec_l6In.calls a b c _ w (in_ev a b c)).mono fun e w' h => ⟨h.1, h.2.out⟩
set_option maxRecDepth 100000 in
set_option maxHeartbeats 4000000 in
theorem specrecs_q (l : List S62) (A : Option Addr) (c : Nat) (w : World) (hr : Kd.C k62 w A l.length l) (hc : l.length ≤ c) :
    Calls Tryd.prog 43 #[.slice A l.length c] w fun e w' => e = .returned (.bool (recsInc l && lenOk l)) ∧ Below w.heap.size w w' := by
  have hl := hr.2.1
  have HR := Aside0.mk hr
  clear hr
  go_enter Tryd.func43, Tryd.ntmps43
  go_wp2
  go_loopw [3] (fun v3 wr => ∃ i : Nat, v3 = .int .i64 i ∧ i ≤ l.length ∧ (∀ j, j < i → recStep l j = true) ∧ Below w.heap.size w wr) (fun v3 _ => l.length - (intOf v3).toNat)
  case atStart => exact ⟨0, rfl, Nat.zero_le _, fun j hj => absurd hj (Nat.not_lt_zero j), Below.refl _ _⟩
  case round =>
    obtain ⟨i, rfl, hi, hall, hB1⟩ := hrel
    by_cases hlt : i < l.length
    · obtain ⟨ad, A3, c3, A5, c5, rfl, e0, e1, e2, e3, e4, e5, l3, g3, l5, g5⟩ := at_T62 (Kd.C_below HR.out hB1) (i : Int) (by omega) (by omega)
      rw [show ((i : Int)).toNat = i from rfl] at e0 e1 e2 e3 e4 e5
      have hrec : recStep l i = (recOk (rd_T62 l (i : Int)) && (decide (i = 0) || decide ((rd_T62 l ((i : Int) - 1)).f0 < (rd_T62 l (i : Int)).f0))) := rfl
      generalize rd_T62 l (i : Int) = ri at *
      have ci : CellsR wr (ad.add (i * 6)) ri A3 c3 A5 c5 := ⟨e0, e1, e2, e3, e4, e5⟩
      clear e0 e1 e2 e3 e4 e5
      go_wp2
      obtain ⟨kR, hkR⟩ := (sRecordValid_ev ri ⟨g3.2.1, g5.2.1⟩).rounds
      have hrc : ∀ (W2 : World), Below wr.heap.size wr W2 → Calls Tryd.prog 56 #[.agg #[.int .i64 ri.f0, .int .i64 ri.f1, .bool ri.f2, .slice A3 ri.f3.length c3, .bool ri.f4, .slice A5 ri.f5.length c5]] W2 fun e w' => e = .returned (.bool (recOk ri)) ∧ Below W2.heap.size W2 w' := fun (W2 : World) (hb : Below wr.heap.size wr W2) => spec_RecordValid.calls kR ri.f0 ri.f1 ri.f2 A3 c3 ri.f3 ri.f4 A5 c5 ri.f5 _ W2 (Kd.C_below g3 hb) l3 (Kd.C_below g5 hb) l5 hkR
      have HRC := Aside0.mk hrc
      clear hrc
      have kS : ∀ w' : World, Below wr.drew.heap.size wr.drew w' → CellsR w' (ad.add (i * 6)) ri A3 c3 A5 c5 ∧ Below wr.heap.size wr w' := fun w' h => ⟨ci.below (below_step (below_drew (Below.refl _ wr)) h), below_step (below_drew (Below.refl _ wr)) h⟩
      have hil : (i : Int) < (l.length : Int) := by omega
      rcases hok : recOk ri with _ | _ <;> rw [hok] at hkR HRC
      · have hno := Aside0.mk (incs_no hlt (hrec.trans (by rw [hok]; rfl)))
        refine r_begin (fun w' => CellsR w' (ad.add (i * 6)) ri A3 c3 A5 c5 ∧ Below wr.heap.size wr w') 24 (by kernel_rfl) rfl (kS _ (Below.refl _ _)) (fun hH => ?_)
        repeat (first | (refine r_skip (by kernel_rfl) (by rfl) (fun _ _ _ h => h) hH ?_; simp only [Act.put, List.setIfInBounds_toArray, List.set_cons_zero, List.set_cons_succ, Nat.reduceAdd]) | (refine r_go (v := ?_) (by kernel_rfl) (by rfl) (fun _ _ _ h => h) hH ?_ ?_; rotate_left; (focus (intro w hS; obtain ⟨⟨e0, e1, e2, e3, e4, e5⟩, e6⟩ := hS; go_simp; first | done | with_reducible rfl)); simp only [Act.put, List.setIfInBounds_toArray, List.set_cons_zero, List.set_cons_succ, Nat.reduceAdd]) | (fail "x"))
        refine r_one (by kernel_rfl) (by rfl) (fun K hK => ?_)
        go_simp
        go_at_call 56
        refine (HRC.out _ hH.2).mono ?_
        rintro e w2 ⟨rfl, hb⟩
        go_wp2_with fail
        refine hK.out _ _ (kS _ hb) (fun hH => ?_)
        clear hK K
        simp only [Act.put, List.setIfInBounds_toArray, List.set_cons_zero, List.set_cons_succ, Nat.reduceAdd]
        repeat (first | (refine r_skip (by kernel_rfl) (by rfl) (fun _ _ _ h => h) hH ?_; simp only [Act.put, List.setIfInBounds_toArray, List.set_cons_zero, List.set_cons_succ, Nat.reduceAdd]) | (refine r_go (v := ?_) (by kernel_rfl) (by rfl) (fun _ _ _ h => h) hH ?_ ?_; rotate_left; (focus (intro w hS; obtain ⟨⟨e0, e1, e2, e3, e4, e5⟩, e6⟩ := hS; go_simp; first | done | with_reducible rfl)); simp only [Act.put, List.setIfInBounds_toArray, List.set_cons_zero, List.set_cons_succ, Nat.reduceAdd]) | (fail "x"))
        refine r_done (by kernel_rfl) ?_
        go_wp2
        go_ret
        exact ⟨by rw [hno.out]; rfl, below_step hB1 hH.2⟩
      · rcases i with _ | j
        · have ez : ad.add (0 * 6) = ad := by go_simp
          rw [ez] at ci
          simp only [ez] at kS
          refine r_begin (fun w' => CellsR w' ad ri A3 c3 A5 c5 ∧ Below wr.heap.size wr w') 24 (by kernel_rfl) rfl (kS _ (Below.refl _ _)) (fun hH => ?_)
          repeat (first | (refine r_skip (by kernel_rfl) (by rfl) (fun _ _ _ h => h) hH ?_; simp only [Act.put, List.setIfInBounds_toArray, List.set_cons_zero, List.set_cons_succ, Nat.reduceAdd]) | (refine r_go (v := ?_) (by kernel_rfl) (by rfl) (fun _ _ _ h => h) hH ?_ ?_; rotate_left; (focus (intro w hS; obtain ⟨⟨e0, e1, e2, e3, e4, e5⟩, e6⟩ := hS; go_simp; first | done | with_reducible rfl)); simp only [Act.put, List.setIfInBounds_toArray, List.set_cons_zero, List.set_cons_succ, Nat.reduceAdd]) | (fail "x"))
          refine r_one (by kernel_rfl) (by rfl) (fun K hK => ?_)
          go_simp
          go_at_call 56
          refine (HRC.out _ hH.2).mono ?_
          rintro e w2 ⟨rfl, hb⟩
          go_wp2_with fail
          refine hK.out _ _ (kS _ hb) (fun hH => ?_)
          clear hK K
          simp only [Act.put, List.setIfInBounds_toArray, List.set_cons_zero, List.set_cons_succ, Nat.reduceAdd]
          repeat (first | (refine r_skip (by kernel_rfl) (by rfl) (fun _ _ _ h => h) hH ?_; simp only [Act.put, List.setIfInBounds_toArray, List.set_cons_zero, List.set_cons_succ, Nat.reduceAdd]) | (refine r_go (v := ?_) (by kernel_rfl) (by rfl) (fun _ _ _ h => h) hH ?_ ?_; rotate_left; (focus (intro w hS; obtain ⟨⟨e0, e1, e2, e3, e4, e5⟩, e6⟩ := hS; go_simp; first | done | with_reducible rfl)); simp only [Act.put, List.setIfInBounds_toArray, List.set_cons_zero, List.set_cons_succ, Nat.reduceAdd]) | (fail "x"))
          refine r_done (by kernel_rfl) ?_
          go_wp2
          go_roundw
          case rel =>
            have hst : ∀ j, j < 0 + 1 → recStep l j = true := by
              intro j hj
              obtain rfl : j = 0 := by omega
              exact hrec.trans (by rw [hok]; rfl)
            first | exact ⟨0 + 1, by simp, hlt, hst, below_step hB1 hH.2⟩ | ((repeat apply Exists.intro); refine ⟨⟨0 + 1, ?_, hlt, hst, below_step hB1 hH.2⟩, by first | rfl | (repeat' apply And.intro) <;> rfl⟩; simp)
          case measure => simp [intOf]; omega
        · obtain ⟨ad2, _, _, _, _, hq, f0, _⟩ := at_T62 (Kd.C_below HR.out hB1) (j : Int) (by omega) (by omega)
          cases hq
          rw [show ((j : Int)).toNat = j from rfl] at f0
          have hrec2 : recStep l (j + 1) = (recOk ri && (decide (j + 1 = 0) || decide ((rd_T62 l (j : Int)).f0 < ri.f0))) := by
            rw [hrec, show ((j + 1 : Nat) : Int) - 1 = (j : Int) by omega]
          generalize (rd_T62 l (j : Int)).f0 = pj at f0 hrec2
          have hwj : IntKind.i64.wrap (j : Int) = (j : Int) := by rw [i64_w]; unfold wrap64; omega
          have hjl : (j : Int) < (l.length : Int) := by omega
          have hjl1 : (j : Int) + 1 < (l.length : Int) := by omega
          have hj0 : (0 : Int) ≤ (j : Int) + 1 := by omega
          have htn : ((j : Int) + 1).toNat = j + 1 := by omega
          have kS2 : ∀ w' : World, Below wr.drew.heap.size wr.drew w' → (CellsR w' (ad.add ((j + 1) * 6)) ri A3 c3 A5 c5 ∧ Below wr.heap.size wr w') ∧ w'.cell? (ad.add (j * 6)) = some (.int .i64 pj) := fun w' h => ⟨kS w' h, pw_cell_below (below_step (below_drew (Below.refl _ wr)) h) f0⟩
          have hno := Aside0.mk hrec2
          clear hrec hrec2
          refine r_begin (fun w' => (CellsR w' (ad.add ((j + 1) * 6)) ri A3 c3 A5 c5 ∧ Below wr.heap.size wr w') ∧ w'.cell? (ad.add (j * 6)) = some (.int .i64 pj)) 24 (by kernel_rfl) rfl (kS2 _ (Below.refl _ _)) (fun hH => ?_)
          repeat (first | (refine r_skip (by kernel_rfl) (by rfl) (fun _ _ _ h => h) hH ?_; simp only [Act.put, List.setIfInBounds_toArray, List.set_cons_zero, List.set_cons_succ, Nat.reduceAdd]) | (refine r_go (v := ?_) (by kernel_rfl) (by rfl) (fun _ _ _ h => h) hH ?_ ?_; rotate_left; (focus (intro w hS; obtain ⟨⟨⟨e0, e1, e2, e3, e4, e5⟩, e6⟩, e7⟩ := hS; go_simp; first | done | with_reducible rfl)); simp only [Act.put, List.setIfInBounds_toArray, List.set_cons_zero, List.set_cons_succ, Nat.reduceAdd]) | (fail "x"))
          refine r_one (by kernel_rfl) (by rfl) (fun K hK => ?_)
          go_simp
          go_at_call 56
          refine (HRC.out _ hH.1.2).mono ?_
          rintro e w2 ⟨rfl, hb⟩
          go_wp2_with fail
          refine hK.out _ _ (kS2 _ hb) (fun hH => ?_)
          clear hK K
          simp only [Act.put, List.setIfInBounds_toArray, List.set_cons_zero, List.set_cons_succ, Nat.reduceAdd]
          repeat (first | (refine r_skip (by kernel_rfl) (by rfl) (fun _ _ _ h => h) hH ?_; simp only [Act.put, List.setIfInBounds_toArray, List.set_cons_zero, List.set_cons_succ, Nat.reduceAdd]) | (refine r_go (v := ?_) (by kernel_rfl) (by rfl) (fun _ _ _ h => h) hH ?_ ?_; rotate_left; (focus (intro w hS; obtain ⟨⟨⟨e0, e1, e2, e3, e4, e5⟩, e6⟩, e7⟩ := hS; go_simp; first | done | with_reducible rfl)); simp only [Act.put, List.setIfInBounds_toArray, List.set_cons_zero, List.set_cons_succ, Nat.reduceAdd]) | (fail "x"))
          refine r_done (by kernel_rfl) ?_
          have hBw := below_step hB1 hH.1.2
          by_cases hlt2 : pj < ri.f0
          · have hst : ∀ j', j' < j + 1 + 1 → recStep l j' = true := by
              intro j' hj
              by_cases h' : j' < j + 1
              · exact hall j' h'
              · obtain rfl : j' = j + 1 := by omega
                rw [hno.out, hok, decide_eq_true hlt2, Bool.or_true]; rfl
            have hng : ¬ ri.f0 ≤ pj := by omega
            go_wp2
            go_roundw
            case rel => first | exact ⟨j + 1 + 1, by simp, hlt, hst, hBw⟩ | ((repeat apply Exists.intro); refine ⟨⟨j + 1 + 1, ?_, hlt, hst, hBw⟩, by first | rfl | (repeat' apply And.intro) <;> rfl⟩; simp)
            case measure => simp [intOf]; omega
          · have hn2 := Aside0.mk (incs_no hlt (hno.out.trans (by rw [hok, decide_eq_false hlt2, decide_eq_false (show ¬ j + 1 = 0 by omega)]; rfl)))
            have hng : ri.f0 ≤ pj := by omega
            go_wp2
            go_ret
            exact ⟨by rw [hn2.out]; rfl, hBw⟩
    · obtain rfl : i = l.length := by omega
      go_wp2_with (go_at_call 44; refine (in_q _ _ _ _).mono ?_; rintro e w' ⟨rfl, ⟨n, rfl⟩⟩)
      go_ret
      exact ⟨by rw [incs_of hall]; rfl, pw_below_drewN hB1 _⟩
def batTail (b : S28) : Bool := if b.f2 = 255 then decide (b.f3 = 0) && (decide (b.f4 = 0) && !b.f1) else (!b.f1 || decide ((b.f5.length : Int) = 1))
theorem batOk_spec (b : S28) : batOk b = ((recsInc b.f5 && lenOk b.f5) && ((decide (0 ≤ b.f2) && decide (b.f2 ≤ 255)) && ((decide (0 ≤ b.f3) && decide (b.f3 ≤ 99)) && ((decide (0 ≤ b.f4) && decide (b.f4 ≤ 9999)) && batTail b)))) := by
  unfold batOk headOk batTail
  by_cases h : b.f2 = 255
  · rw [if_pos h, if_pos h, h]
    cases recsInc b.f5
    · simp
    · rw [Bool.eq_iff_iff]
      simp only [lenOk, Bool.and_eq_true, Bool.or_eq_true, decide_eq_true_eq, Bool.not_eq_true']
      constructor
      · rintro ⟨⟨h3, h4, h1⟩, hl, hm, _⟩
        exact ⟨⟨trivial, hl⟩, ⟨by omega, by omega⟩, ⟨by omega, by omega⟩, ⟨by omega, by omega⟩, h3, h4, h1⟩
      · rintro ⟨⟨_, hl⟩, _, _, _, h3, h4, h1⟩
        exact ⟨⟨h3, h4, h1⟩, hl, .inl h1, trivial⟩
  · rw [if_neg h, if_neg h]
    rw [Bool.eq_iff_iff]
    simp only [Bool.and_eq_true, decide_eq_true_eq]
    constructor
    · rintro ⟨⟨h2, h3, h4⟩, hl, hm, hr⟩
      exact ⟨⟨hr, hl⟩, ⟨by omega, by omega⟩, h3, h4, hm⟩
    · rintro ⟨⟨hr, hl⟩, h2, h3, h4, hm⟩
      exact ⟨⟨⟨by omega, by omega⟩, h3, h4⟩, hl, hm, hr⟩
theorem sb_no {b2 b3 b4 : Int} {x : Bool} (h : ¬(0 ≤ b2 ∧ b2 ≤ 255) ∨ ¬(0 ≤ b3 ∧ b3 ≤ 99) ∨ ((!decide (0 ≤ b4)) = true ∨ (!decide (b4 ≤ 9999)) = true)) : Ending.returned (.bool false) = .returned (.bool (true && ((decide (0 ≤ b2) && decide (b2 ≤ 255)) && ((decide (0 ≤ b3) && decide (b3 ≤ 99)) && ((decide (0 ≤ b4) && decide (b4 ≤ 9999)) && x))))) := by
  congr 2
  grind
theorem sb_t {b2 b3 b4 : Int} {x y : Bool} (h2 : 0 ≤ b2 ∧ b2 ≤ 255) (h3 : 0 ≤ b3 ∧ b3 ≤ 99) (h4 : (!decide (0 ≤ b4)) = false ∧ (!decide (b4 ≤ 9999)) = false) (hx : x = y) : Ending.returned (.bool y) = .returned (.bool (true && ((decide (0 ≤ b2) && decide (b2 ≤ 255)) && ((decide (0 ≤ b3) && decide (b3 ≤ 99)) && ((decide (0 ≤ b4) && decide (b4 ≤ 9999)) && x))))) := by
  subst hx
  congr 2
  grind
section
variable {b0 b1 : Bool} {b2 b3 b4 : Int} {l : List S62}
theorem tl1 (h : (b2 == 255) = true) (h3 : b3 = 0) (h4 : b4 = 0) : batTail ⟨b0, b1, b2, b3, b4, l⟩ = !b1 := by unfold batTail; grind
theorem tl2 (h : (b2 == 255) = true) (h3 : b3 = 0) (h4 : ¬ b4 = 0) : batTail ⟨b0, b1, b2, b3, b4, l⟩ = false := by unfold batTail; grind
theorem tl3 (h : (b2 == 255) = true) (h3 : ¬ b3 = 0) : batTail ⟨b0, b1, b2, b3, b4, l⟩ = false := by unfold batTail; grind
theorem tl4 (h : (b2 == 255) = false) (h1 : b1 = true) : batTail ⟨b0, b1, b2, b3, b4, l⟩ = ((l.length : Int) == 1) := by unfold batTail; grind
theorem tl5 (h : (b2 == 255) = false) (h1 : ¬ b1 = true) : batTail ⟨b0, b1, b2, b3, b4, l⟩ = true := by unfold batTail; grind
end
set_option maxRecDepth 100000 in
set_option maxHeartbeats 4000000 in
theorem specbat_q (b : S28) (A : Option Addr) (c : Nat) (w : World) (hr : Kd.C k62 w A b.f5.length b.f5) (hc : b.f5.length ≤ c) :
    Calls Tryd.prog 26 #[.agg #[.bool b.f0, .bool b.f1, .int .i64 b.f2, .int .i64 b.f3, .int .i64 b.f4, .slice A b.f5.length c]] w fun e w' => e = .returned (.bool (batOk b)) ∧ Below w.heap.size w w' := by
  rw [batOk_spec]
  obtain ⟨b0, b1, b2, b3, b4, l⟩ := b
  simp only at hr hc ⊢
  have hl := hr.2.1
  have HL := Aside0.mk (fun (W2 : World) (hb : Below w.heap.size w W2) => specrecs_q l A c W2 (Kd.C_below hr hb) hc)
  clear hr
  rcases hok : (recsInc l && lenOk l) with _ | _ <;> rw [hok] at HL
  · go_enter Tryd.func26, Tryd.ntmps26
    go_wp2_with (go_at_call 43; refine (HL.out _ (below_alloc (Below.refl _ _) _)).mono ?_; rintro e w1 ⟨rfl, hb⟩)
    go_ret
    exact ⟨rfl, below_step (below_alloc (Below.refl _ _) _) hb⟩
  · go_enter Tryd.func26, Tryd.ntmps26
    go_wp2_with (first | (go_at_call 44; refine (in_q _ _ _ _).mono ?_; rintro e w' ⟨rfl, ⟨n, rfl⟩⟩) | (go_at_call 43; refine (HL.out _ (below_alloc (Below.refl _ _) _)).mono ?_; rintro e w1 ⟨rfl, hb⟩; have hB := below_step (below_alloc (Below.refl _ _) _) hb; have hw := blk_below (heap_alloc_new w _) hb; have q1 := blk_cell hw 1; have q2 := blk_cell hw 2; have q3 := blk_cell hw 3; have q4 := blk_cell hw 4; have q5 := blk_cell hw 5; clear hb hw))
    all_goals (go_ret; exact ⟨by first | exact sb_no (.inl ‹_›) | exact sb_no (.inr (.inl ‹_›)) | exact sb_no (.inr (.inr ‹_›)) | exact sb_t ‹_› ‹_› ‹_› (tl1 ‹_› ‹_› ‹_›) | exact sb_t ‹_› ‹_› ‹_› (tl2 ‹_› ‹_› ‹_›) | exact sb_t ‹_› ‹_› ‹_› (tl3 ‹_› ‹_›) | exact sb_t ‹_› ‹_› ‹_› (tl4 ‹_› ‹_›) | exact sb_t ‹_› ‹_› ‹_› (tl5 ‹_› ‹_›), pw_below_drewN hB _⟩)
def spec_BatchValid.f (k : Nat) (a0 : Bool) (a1 : Bool) (a2 a3 a4 : Int) (a5 : List S62) : Option Bool := some (batOk ⟨a0, a1, a2, a3, a4, a5⟩)
theorem spec_BatchValid.calls (k : Nat) (a0_0 : Bool) (a0_1 : Bool) (a0_2 : Int) (a0_3 : Int) (a0_4 : Int) (A0_5 : Option Addr) (c0_5 : Nat) (l0_5 : List (S62)) (r : Bool) (w : World) (hr0_5 : Kd.C k62 w A0_5 l0_5.length l0_5) (hc0_5 : l0_5.length ≤ c0_5) (h : spec_BatchValid.f k a0_0 a0_1 a0_2 a0_3 a0_4 l0_5 = some r) :
    Calls Tryd.prog 26 #[.agg #[.bool a0_0, .bool a0_1, .int .i64 a0_2, .int .i64 a0_3, .int .i64 a0_4, .slice A0_5 l0_5.length c0_5]] w fun e w' => e = .returned (.bool r) ∧ Below w.heap.size w w' := by
  obtain rfl := Option.some.inj h
  exact specbat_q ⟨a0_0, a0_1, a0_2, a0_3, a0_4, l0_5⟩ A0_5 c0_5 w hr0_5 hc0_5
end Go.Proofs.YtfjkpdhldeopaaaDoor.G

namespace Go.Proofs.YtfjkpdhldeopaaaDoor.G
open Go.RowKit Go.Proofs.YtfjkpdhldeopaaaDoorW.PrintWords Go.Proofs.YtfjkpdhldeopaaaDoorW.PrintLast Go.Proofs.YtfjkpdhldeopaaaDoorW.PrintMore
attribute [local go_sem] max2_int min2_int max_two min_two max_three min_three max_four min_four   -- for this text's walks alone
set_option linter.unusedVariables false
set_option linter.unusedSimpArgs false

def laws_eqBatch.f (k : Nat) (a0_0 : Bool) (a0_1 : Bool) (a0_2 : Int) (a0_3 : Int) (a0_4 : Int) (l0_5 : List (S62)) (a1_0 : Bool) (a1_1 : Bool) (a1_2 : Int) (a1_3 : Int) (a1_4 : Int) (l1_5 : List (S62)) : Option (Bool) := if (a0_0 != a1_0) = true then (some false) else (if (a0_1 != a1_1) = true then (some false) else (if a0_2 = a1_2 then (if a0_3 = a1_3 then (if a0_4 = a1_4 then ((laws_eqRecordS.f k l0_5 l1_5).bind fun t296 => (if t296 = true then (some true) else (some false))) else (some false)) else (some false)) else (some false)))
set_option maxHeartbeats 8000000 in
set_option maxRecDepth 100000 in
theorem laws_eqBatch.calls (k : Nat) (a0_0 : Bool) (a0_1 : Bool) (a0_2 : Int) (a0_3 : Int) (a0_4 : Int) (A0_5 : Option Addr) (c0_5 : Nat) (l0_5 : List (S62)) (a1_0 : Bool) (a1_1 : Bool) (a1_2 : Int) (a1_3 : Int) (a1_4 : Int) (A1_5 : Option Addr) (c1_5 : Nat) (l1_5 : List (S62)) (r : Bool) (w : World) (hr0_5 : Kd.C k62 w A0_5 l0_5.length l0_5) (hc0_5 : l0_5.length ≤ c0_5) (hr1_5 : Kd.C k62 w A1_5 l1_5.length l1_5) (hc1_5 : l1_5.length ≤ c1_5) (h : laws_eqBatch.f k a0_0 a0_1 a0_2 a0_3 a0_4 l0_5 a1_0 a1_1 a1_2 a1_3 a1_4 l1_5 = some r) :
  Calls Tryd.prog 11 #[.agg #[.bool a0_0, .bool a0_1, .int .i64 a0_2, .int .i64 a0_3, .int .i64 a0_4, .slice A0_5 l0_5.length c0_5], .agg #[.bool a1_0, .bool a1_1, .int .i64 a1_2, .int .i64 a1_3, .int .i64 a1_4, .slice A1_5 l1_5.length c1_5]] w fun e w' => e = .returned (.bool r) ∧ Below w.heap.size w w' := by
 have hu28 := Tryd.underlying28
 have HR0_5 := Aside0.mk hr0_5
 have HC0_5 := Aside0.mk hc0_5
 clear hr0_5 hc0_5
 have HR1_5 := Aside0.mk hr1_5
 have HC1_5 := Aside0.mk hc1_5
 clear hr1_5 hc1_5
 have HB := Aside0.mk (Below.refl w.heap.size w)
 have H : (if (a0_0 != a1_0) = true then (some false) else (if (a0_1 != a1_1) = true then (some false) else (if a0_2 = a1_2 then (if a0_3 = a1_3 then (if a0_4 = a1_4 then ((laws_eqRecordS.f k l0_5 l1_5).bind fun t296 => (if t296 = true then (some true) else (some false))) else (some false)) else (some false)) else (some false)))) = some r := h
 clear h
 by_cases c3 : (a0_0 != a1_0) = true
 ·rw [if_pos c3] at H
  have c3b0 : (a0_0 != a1_0) = true := c3
  (try (have c3b1 : decide (a0_0 = a1_0) = false := by simpa using c3))
  (try (have c3b2 : (a0_0 == a1_0) = false := by simpa using c3))
  (try (have c3b3 : ¬ (a0_0 = a1_0) := by simpa using c3))
  clear c3
  obtain rfl := Option.some.inj H
  go_enter Tryd.func11, Tryd.ntmps11
  go_wp2_with (first | ((with_reducible refine gate_dst (N := 2) rfl ?_); refine box_event ?hg (N := 2) ?hd (cs := #[.bool a0_0, .bool a0_1, .int .i64 a0_2, .int .i64 a0_3, .int .i64 a0_4, .slice A0_5 l0_5.length c0_5]) (t := 28) ?hr ?_; (case hd => rfl); (case hg => rfl); (case hr => first | (go_simp; done) | (go_simp; rfl)); intro gb294 hg w4 hbox hb; have BK294 := Aside0.mk (hbox); have GW294 := tge HB hg; have GE294 := tge HB hg; replace HB := tBs HB hb; clear hb hbox hg) | ((with_reducible refine gate_dst (N := 3) rfl ?_); refine box_event ?hg (N := 3) ?hd (cs := #[.bool a1_0, .bool a1_1, .int .i64 a1_2, .int .i64 a1_3, .int .i64 a1_4, .slice A1_5 l1_5.length c1_5]) (t := 28) ?hr ?_; (case hd => rfl); (case hg => rfl); (case hr => first | (go_simp; done) | (go_simp; rfl)); intro gb295 hg w5 hbox hb; have BK295 := Aside0.mk (hbox); have GW295 := tge HB hg; have GE295 := tge HB hg; replace HB := tBs HB hb; have NB294_295 := tlt BK294 hg; have NB295_294 := tgt BK294 hg; replace BK294 := tBb BK294 hb; clear hb hbox hg; have hnb6 := NB294_295.out; have hnc6 := NB295_294.out; obtain ⟨hcz7_0, hcz7_1, hcz7_2, hcz7_3, hcz7_4, hcz7_5, hfz7_0, hfz7_1, hfz7_2, hfz7_3, hfz7_4, hfz7_5⟩ := cells6 BK294.out; obtain ⟨hcz8_0, hcz8_1, hcz8_2, hcz8_3, hcz8_4, hcz8_5, hfz8_0, hfz8_1, hfz8_2, hfz8_3, hfz8_4, hfz8_5⟩ := cells6 BK295.out))
  go_ret
  exact ⟨by first | rfl | (simp [errW_none, errW_some] <;> rfl) | (simp [*, errW_none, errW_some] <;> rfl), zb⟩
 ·rw [if_neg c3] at H
  have c3b0 : (a0_0 != a1_0) = false := by simpa using c3
  (try (have c3b1 : decide (a0_0 = a1_0) = true := by simpa using c3))
  (try (have c3b2 : (a0_0 == a1_0) = true := by simpa using c3))
  clear c3
  by_cases c9 : (a0_1 != a1_1) = true
  ·rw [if_pos c9] at H
   have c9b0 : (a0_1 != a1_1) = true := c9
   (try (have c9b1 : decide (a0_1 = a1_1) = false := by simpa using c9))
   (try (have c9b2 : (a0_1 == a1_1) = false := by simpa using c9))
   (try (have c9b3 : ¬ (a0_1 = a1_1) := by simpa using c9))
   clear c9
   obtain rfl := Option.some.inj H
   go_enter Tryd.func11, Tryd.ntmps11
   go_wp2_with (first | ((with_reducible refine gate_dst (N := 2) rfl ?_); refine box_event ?hg (N := 2) ?hd (cs := #[.bool a0_0, .bool a0_1, .int .i64 a0_2, .int .i64 a0_3, .int .i64 a0_4, .slice A0_5 l0_5.length c0_5]) (t := 28) ?hr ?_; (case hd => rfl); (case hg => rfl); (case hr => first | (go_simp; done) | (go_simp; rfl)); intro gb294 hg w10 hbox hb; have BK294 := Aside0.mk (hbox); have GW294 := tge HB hg; have GE294 := tge HB hg; replace HB := tBs HB hb; clear hb hbox hg) | ((with_reducible refine gate_dst (N := 3) rfl ?_); refine box_event ?hg (N := 3) ?hd (cs := #[.bool a1_0, .bool a1_1, .int .i64 a1_2, .int .i64 a1_3, .int .i64 a1_4, .slice A1_5 l1_5.length c1_5]) (t := 28) ?hr ?_; (case hd => rfl); (case hg => rfl); (case hr => first | (go_simp; done) | (go_simp; rfl)); intro gb295 hg w11 hbox hb; have BK295 := Aside0.mk (hbox); have GW295 := tge HB hg; have GE295 := tge HB hg; replace HB := tBs HB hb; have NB294_295 := tlt BK294 hg; have NB295_294 := tgt BK294 hg; replace BK294 := tBb BK294 hb; clear hb hbox hg; have hnb12 := NB294_295.out; have hnc12 := NB295_294.out; obtain ⟨hcz13_0, hcz13_1, hcz13_2, hcz13_3, hcz13_4, hcz13_5, hfz13_0, hfz13_1, hfz13_2, hfz13_3, hfz13_4, hfz13_5⟩ := cells6 BK294.out; obtain ⟨hcz14_0, hcz14_1, hcz14_2, hcz14_3, hcz14_4, hcz14_5, hfz14_0, hfz14_1, hfz14_2, hfz14_3, hfz14_4, hfz14_5⟩ := cells6 BK295.out))
   go_ret
   exact ⟨by first | rfl | (simp [errW_none, errW_some] <;> rfl) | (simp [*, errW_none, errW_some] <;> rfl), zb⟩
  ·rw [if_neg c9] at H
   have c9b0 : (a0_1 != a1_1) = false := by simpa using c9
   (try (have c9b1 : decide (a0_1 = a1_1) = true := by simpa using c9))
   (try (have c9b2 : (a0_1 == a1_1) = true := by simpa using c9))
   clear c9
   by_cases c15 : a0_2 = a1_2
   ·rw [if_pos c15] at H
    have c15b0 : (a0_2 == a1_2) = true := beq_iff_eq.mpr c15
    have c15b1 : (a0_2 != a1_2) = false := bne_eq_false_iff_eq.mpr c15
    clear c15
    by_cases c16 : a0_3 = a1_3
    ·rw [if_pos c16] at H
     have c16b0 : (a0_3 == a1_3) = true := beq_iff_eq.mpr c16
     have c16b1 : (a0_3 != a1_3) = false := bne_eq_false_iff_eq.mpr c16
     clear c16
     by_cases c17 : a0_4 = a1_4
     ·rw [if_pos c17] at H
      have c17b0 : (a0_4 == a1_4) = true := beq_iff_eq.mpr c17
      have c17b1 : (a0_4 != a1_4) = false := bne_eq_false_iff_eq.mpr c17
      clear c17
      replace H := tbe H
      obtain ⟨t296, A18, H⟩ := H
      by_cases c19 : t296 = true
      ·subst c19
       rw [if_pos rfl] at H
       obtain rfl := Option.some.inj H
       go_enter Tryd.func11, Tryd.ntmps11
       go_wp2_with (first | ((with_reducible refine gate_dst (N := 2) rfl ?_); refine box_event ?hg (N := 2) ?hd (cs := #[.bool a0_0, .bool a0_1, .int .i64 a0_2, .int .i64 a0_3, .int .i64 a0_4, .slice A0_5 l0_5.length c0_5]) (t := 28) ?hr ?_; (case hd => rfl); (case hg => rfl); (case hr => first | (go_simp; done) | (go_simp; rfl)); intro gb294 hg w20 hbox hb; have BK294 := Aside0.mk (hbox); have GW294 := tge HB hg; have GE294 := tge HB hg; replace HB := tBs HB hb; clear hb hbox hg) | ((with_reducible refine gate_dst (N := 3) rfl ?_); refine box_event ?hg (N := 3) ?hd (cs := #[.bool a1_0, .bool a1_1, .int .i64 a1_2, .int .i64 a1_3, .int .i64 a1_4, .slice A1_5 l1_5.length c1_5]) (t := 28) ?hr ?_; (case hd => rfl); (case hg => rfl); (case hr => first | (go_simp; done) | (go_simp; rfl)); intro gb295 hg w21 hbox hb; have BK295 := Aside0.mk (hbox); have GW295 := tge HB hg; have GE295 := tge HB hg; replace HB := tBs HB hb; have NB294_295 := tlt BK294 hg; have NB295_294 := tgt BK294 hg; replace BK294 := tBb BK294 hb; clear hb hbox hg; have hnb22 := NB294_295.out; have hnc22 := NB295_294.out; obtain ⟨hcz23_0, hcz23_1, hcz23_2, hcz23_3, hcz23_4, hcz23_5, hfz23_0, hfz23_1, hfz23_2, hfz23_3, hfz23_4, hfz23_5⟩ := cells6 BK294.out; obtain ⟨hcz24_0, hcz24_1, hcz24_2, hcz24_3, hcz24_4, hcz24_5, hfz24_0, hfz24_1, hfz24_2, hfz24_3, hfz24_4, hfz24_5⟩ := cells6 BK295.out) | ((with_reducible refine gate_callee (f := 31) rfl ?_); refine goesL_ (some 34) rfl rfl Tryd.func31 (by kernel_rfl) rfl #[.slice A0_5 l0_5.length c0_5, .slice A1_5 l1_5.length c1_5] rfl tq ?_; (with_reducible refine (laws_eqRecordS.calls k _ _ l0_5 _ _ l1_5 true _ ?side1 ?side2 ?side3 ?side4 A18.out).mono ?_); (case side1 => exact tC (Kd.C_below HR0_5.out HB.out)); (case side2 => exact HC0_5.out); (case side3 => exact tC (Kd.C_below HR1_5.out HB.out)); (case side4 => exact HC1_5.out); rintro e w25 ⟨rfl, hb⟩; refine ⟨_, rfl, ?_⟩; replace BK294 := tBb BK294 hb; replace BK295 := tBb BK295 hb; replace HB := tBs HB hb; (try clear hb); (try clear hb2); (try clear hk); (try clear hi)))
       go_ret
       exact ⟨by first | rfl | (simp [errW_none, errW_some] <;> rfl) | (simp [*, errW_none, errW_some] <;> rfl), zb⟩
      ·replace c19 := Bool.eq_false_iff.mpr c19
       subst c19
       rw [if_neg (show ¬ (false = true) by decide)] at H
       obtain rfl := Option.some.inj H
       go_enter Tryd.func11, Tryd.ntmps11
       go_wp2_with (first | ((with_reducible refine gate_dst (N := 2) rfl ?_); refine box_event ?hg (N := 2) ?hd (cs := #[.bool a0_0, .bool a0_1, .int .i64 a0_2, .int .i64 a0_3, .int .i64 a0_4, .slice A0_5 l0_5.length c0_5]) (t := 28) ?hr ?_; (case hd => rfl); (case hg => rfl); (case hr => first | (go_simp; done) | (go_simp; rfl)); intro gb294 hg w26 hbox hb; have BK294 := Aside0.mk (hbox); have GW294 := tge HB hg; have GE294 := tge HB hg; replace HB := tBs HB hb; clear hb hbox hg) | ((with_reducible refine gate_dst (N := 3) rfl ?_); refine box_event ?hg (N := 3) ?hd (cs := #[.bool a1_0, .bool a1_1, .int .i64 a1_2, .int .i64 a1_3, .int .i64 a1_4, .slice A1_5 l1_5.length c1_5]) (t := 28) ?hr ?_; (case hd => rfl); (case hg => rfl); (case hr => first | (go_simp; done) | (go_simp; rfl)); intro gb295 hg w27 hbox hb; have BK295 := Aside0.mk (hbox); have GW295 := tge HB hg; have GE295 := tge HB hg; replace HB := tBs HB hb; have NB294_295 := tlt BK294 hg; have NB295_294 := tgt BK294 hg; replace BK294 := tBb BK294 hb; clear hb hbox hg; have hnb28 := NB294_295.out; have hnc28 := NB295_294.out; obtain ⟨hcz29_0, hcz29_1, hcz29_2, hcz29_3, hcz29_4, hcz29_5, hfz29_0, hfz29_1, hfz29_2, hfz29_3, hfz29_4, hfz29_5⟩ := cells6 BK294.out; obtain ⟨hcz30_0, hcz30_1, hcz30_2, hcz30_3, hcz30_4, hcz30_5, hfz30_0, hfz30_1, hfz30_2, hfz30_3, hfz30_4, hfz30_5⟩ := cells6 BK295.out) | ((with_reducible refine gate_callee (f := 31) rfl ?_); refine goesL_ (some 34) rfl rfl Tryd.func31 (by kernel_rfl) rfl #[.slice A0_5 l0_5.length c0_5, .slice A1_5 l1_5.length c1_5] rfl tq ?_; (with_reducible refine (laws_eqRecordS.calls k _ _ l0_5 _ _ l1_5 false _ ?side1 ?side2 ?side3 ?side4 A18.out).mono ?_); (case side1 => exact tC (Kd.C_below HR0_5.out HB.out)); (case side2 => exact HC0_5.out); (case side3 => exact tC (Kd.C_below HR1_5.out HB.out)); (case side4 => exact HC1_5.out); rintro e w31 ⟨rfl, hb⟩; refine ⟨_, rfl, ?_⟩; replace BK294 := tBb BK294 hb; replace BK295 := tBb BK295 hb; replace HB := tBs HB hb; (try clear hb); (try clear hb2); (try clear hk); (try clear hi)))
       go_ret
       exact ⟨by first | rfl | (simp [errW_none, errW_some] <;> rfl) | (simp [*, errW_none, errW_some] <;> rfl), zb⟩
     ·rw [if_neg c17] at H
      have c17b0 : (a0_4 == a1_4) = false := beq_eq_false_iff_ne.mpr c17
      have c17b1 : (a0_4 != a1_4) = true := bne_iff_ne.mpr c17
      obtain rfl := Option.some.inj H
      go_enter Tryd.func11, Tryd.ntmps11
      go_wp2_with (first | ((with_reducible refine gate_dst (N := 2) rfl ?_); refine box_event ?hg (N := 2) ?hd (cs := #[.bool a0_0, .bool a0_1, .int .i64 a0_2, .int .i64 a0_3, .int .i64 a0_4, .slice A0_5 l0_5.length c0_5]) (t := 28) ?hr ?_; (case hd => rfl); (case hg => rfl); (case hr => first | (go_simp; done) | (go_simp; rfl)); intro gb294 hg w32 hbox hb; have BK294 := Aside0.mk (hbox); have GW294 := tge HB hg; have GE294 := tge HB hg; replace HB := tBs HB hb; clear hb hbox hg) | ((with_reducible refine gate_dst (N := 3) rfl ?_); refine box_event ?hg (N := 3) ?hd (cs := #[.bool a1_0, .bool a1_1, .int .i64 a1_2, .int .i64 a1_3, .int .i64 a1_4, .slice A1_5 l1_5.length c1_5]) (t := 28) ?hr ?_; (case hd => rfl); (case hg => rfl); (case hr => first | (go_simp; done) | (go_simp; rfl)); intro gb295 hg w33 hbox hb; have BK295 := Aside0.mk (hbox); have GW295 := tge HB hg; have GE295 := tge HB hg; replace HB := tBs HB hb; have NB294_295 := tlt BK294 hg; have NB295_294 := tgt BK294 hg; replace BK294 := tBb BK294 hb; clear hb hbox hg; have hnb34 := NB294_295.out; have hnc34 := NB295_294.out; obtain ⟨hcz35_0, hcz35_1, hcz35_2, hcz35_3, hcz35_4, hcz35_5, hfz35_0, hfz35_1, hfz35_2, hfz35_3, hfz35_4, hfz35_5⟩ := cells6 BK294.out; obtain ⟨hcz36_0, hcz36_1, hcz36_2, hcz36_3, hcz36_4, hcz36_5, hfz36_0, hfz36_1, hfz36_2, hfz36_3, hfz36_4, hfz36_5⟩ := cells6 BK295.out))
      go_ret
      exact ⟨by first | rfl | (simp [errW_none, errW_some] <;> rfl) | (simp [*, errW_none, errW_some] <;> rfl), zb⟩
    ·rw [if_neg c16] at H
     have c16b0 : (a0_3 == a1_3) = false := beq_eq_false_iff_ne.mpr c16
     have c16b1 : (a0_3 != a1_3) = true := bne_iff_ne.mpr c16
     obtain rfl := Option.some.inj H
     go_enter Tryd.func11, Tryd.ntmps11
     go_wp2_with (first | ((with_reducible refine gate_dst (N := 2) rfl ?_); refine box_event ?hg (N := 2) ?hd (cs := #[.bool a0_0, .bool a0_1, .int .i64 a0_2, .int .i64 a0_3, .int .i64 a0_4, .slice A0_5 l0_5.length c0_5]) (t := 28) ?hr ?_; (case hd => rfl); (case hg => rfl); (case hr => first | (go_simp; done) | (go_simp; rfl)); intro gb294 hg w37 hbox hb; have BK294 := Aside0.mk (hbox); have GW294 := tge HB hg; have GE294 := tge HB hg; replace HB := tBs HB hb; clear hb hbox hg) | ((with_reducible refine gate_dst (N := 3) rfl ?_); refine box_event ?hg (N := 3) ?hd (cs := #[.bool a1_0, .bool a1_1, .int .i64 a1_2, .int .i64 a1_3, .int .i64 a1_4, .slice A1_5 l1_5.length c1_5]) (t := 28) ?hr ?_; (case hd => rfl); (case hg => rfl); (case hr => first | (go_simp; done) | (go_simp; rfl)); intro gb295 hg w38 hbox hb; have BK295 := Aside0.mk (hbox); have GW295 := tge HB hg; have GE295 := tge HB hg; replace HB := tBs HB hb; have NB294_295 := tlt BK294 hg; have NB295_294 := tgt BK294 hg; replace BK294 := tBb BK294 hb; clear hb hbox hg; have hnb39 := NB294_295.out; have hnc39 := NB295_294.out; obtain ⟨hcz40_0, hcz40_1, hcz40_2, hcz40_3, hcz40_4, hcz40_5, hfz40_0, hfz40_1, hfz40_2, hfz40_3, hfz40_4, hfz40_5⟩ := cells6 BK294.out; obtain ⟨hcz41_0, hcz41_1, hcz41_2, hcz41_3, hcz41_4, hcz41_5, hfz41_0, hfz41_1, hfz41_2, hfz41_3, hfz41_4, hfz41_5⟩ := cells6 BK295.out))
     go_ret
     exact ⟨by first | rfl | (simp [errW_none, errW_some] <;> rfl) | (simp [*, errW_none, errW_some] <;> rfl), zb⟩
   ·rw [if_neg c15] at H
    have c15b0 : (a0_2 == a1_2) = false := beq_eq_false_iff_ne.mpr c15
    have c15b1 : (a0_2 != a1_2) = true := bne_iff_ne.mpr c15
    obtain rfl := Option.some.inj H
    go_enter Tryd.func11, Tryd.ntmps11
    go_wp2_with (first | ((with_reducible refine gate_dst (N := 2) rfl ?_); refine box_event ?hg (N := 2) ?hd (cs := #[.bool a0_0, .bool a0_1, .int .i64 a0_2, .int .i64 a0_3, .int .i64 a0_4, .slice A0_5 l0_5.length c0_5]) (t := 28) ?hr ?_; (case hd => rfl); (case hg => rfl); (case hr => first | (go_simp; done) | (go_simp; rfl)); intro gb294 hg w42 hbox hb; have BK294 := Aside0.mk (hbox); have GW294 := tge HB hg; have GE294 := tge HB hg; replace HB := tBs HB hb; clear hb hbox hg) | ((with_reducible refine gate_dst (N := 3) rfl ?_); refine box_event ?hg (N := 3) ?hd (cs := #[.bool a1_0, .bool a1_1, .int .i64 a1_2, .int .i64 a1_3, .int .i64 a1_4, .slice A1_5 l1_5.length c1_5]) (t := 28) ?hr ?_; (case hd => rfl); (case hg => rfl); (case hr => first | (go_simp; done) | (go_simp; rfl)); intro gb295 hg w43 hbox hb; have BK295 := Aside0.mk (hbox); have GW295 := tge HB hg; have GE295 := tge HB hg; replace HB := tBs HB hb; have NB294_295 := tlt BK294 hg; have NB295_294 := tgt BK294 hg; replace BK294 := tBb BK294 hb; clear hb hbox hg; have hnb44 := NB294_295.out; have hnc44 := NB295_294.out; obtain ⟨hcz45_0, hcz45_1, hcz45_2, hcz45_3, hcz45_4, hcz45_5, hfz45_0, hfz45_1, hfz45_2, hfz45_3, hfz45_4, hfz45_5⟩ := cells6 BK294.out; obtain ⟨hcz46_0, hcz46_1, hcz46_2, hcz46_3, hcz46_4, hcz46_5, hfz46_0, hfz46_1, hfz46_2, hfz46_3, hfz46_4, hfz46_5⟩ := cells6 BK295.out))
    go_ret
    exact ⟨by first | rfl | (simp [errW_none, errW_some] <;> rfl) | (simp [*, errW_none, errW_some] <;> rfl), zb⟩

def laws_markIntS.l0 : Nat → List Int → Int → Int → Option (Int × List Int)
 | 0, _, _, _ => none
 | k + 1, x0, x1, x5 => if x5 < (x0.length : Int) then (if 0 ≤ x5 then (laws_markIntS.l0 k (x0.set (x5 : Int).toNat x1) (wrap64 (x1 + 1)) (wrap64 (x5 + 1))) else (none)) else (some (x1, x0))
def laws_markIntS.f (k : Nat) (l0 : List Int) (a1 : Int) : Option (Int × List Int) := laws_markIntS.l0 k l0 a1 0
set_option maxHeartbeats 8000000 in
set_option maxRecDepth 100000 in
theorem laws_markIntS.calls (k : Nat) (P0_ : Nat → Prop) (u9000_ : Value) (l0 : List Int) (a1 : Int) (r1 : Int) (r2 : List Int) (w0 w : World) (hB : Below w0.heap.size w0 w) (ho0 : Kd.R (Kd.int .i64) 3 w w0.heap.size P0_ u9000_ l0) (h : laws_markIntS.f k l0 a1 = some (r1, r2)) :
  Calls Tryd.prog 52 #[u9000_, .int .i64 a1] w fun e w' => e = .returned (.int .i64 r1) ∧ Kd.R (Kd.int .i64) 3 w' w0.heap.size (fun k_ => (P0_ k_ ∨ w.heap.size ≤ k_)) u9000_ r2 ∧ Below w0.heap.size w0 w' ∧ Kept w w' (fun k_ => P0_ k_) := by
 have HO0 := Aside0.mk (show Kd.R (Kd.int .i64) 3 w w0.heap.size (fun k_ => (P0_ k_ ∨ w.heap.size ≤ k_)) u9000_ l0 from Kd.R_mono ho0 (fun k_ hk => (.inl hk)))
 have HK := Aside0.mk (Kept.refl w (fun k_ => P0_ k_))
 have HW0 := Aside0.mk hB.size
 have HB := Aside0.mk hB
 clear hB
 have H : (laws_markIntS.l0 k l0 a1 0) = some (r1, r2) := h
 clear h
 have H' := Aside0.mk H
 clear H
 go_enter Tryd.func52, Tryd.ntmps52
 go_wp2
 go_loopg [1, 5] k (fun kq v1 v5 w' => ∃ (x0_1 : List Int) (x1_1 : Int) (x5_1 : Int), v1 = .int .i64 x1_1 ∧ v5 = .int .i64 x5_1 ∧ Aside0 (laws_markIntS.l0 kq x0_1 x1_1 x5_1 = some (r1, r2)) ∧ Aside0 (kq ≤ k) ∧ Aside0 (Kd.R (Kd.int .i64) 3 w' w0.heap.size (fun k_ => (P0_ k_ ∨ w.heap.size ≤ k_)) u9000_ x0_1) ∧ Aside0 (Kept w w' (fun k_ => P0_ k_)) ∧ Aside0 (Below w0.heap.size w0 w'))
 case atStart => exact ⟨(l0), (a1), (0), tr, tr, H', ⟨Nat.le_refl _⟩, ⟨tR HO0.out⟩, ⟨by repeat (first | (with_reducible first | exact HK.out | apply Kept.alloc | apply Kept.drewN | apply Kept.drew) | exact HK.out)⟩, ⟨zb⟩⟩
 case round =>
  clear H'
  obtain ⟨x0_1, x1_1, x5_1, rfl, rfl, HA, HK1, HO_0, HK, HB⟩ := hrel
  cases gk with
  | zero => exact absurd HA.out (by simp [laws_markIntS.l0])
  | succ k1 =>
   have H := HA.out
   clear HA
   simp only [laws_markIntS.l0] at H
   by_cases c3 : x5_1 < (x0_1.length : Int)
   ·rw [if_pos c3] at H
    have c3b0 : decide (x5_1 < (x0_1.length : Int)) = true := decide_eq_true c3
    clear c3
    by_cases c4 : 0 ≤ x5_1
    ·rw [if_pos c4] at H
     have c4b0 : decide (0 ≤ x5_1) = true := decide_eq_true c4
     clear c4
     obtain ⟨y297, hy297⟩ : ∃ y_ : List Int, y_ = (x0_1.set (x5_1 : Int).toNat x1_1) := ⟨_, rfl⟩
     replace H : (laws_markIntS.l0 k1 y297 (wrap64 (x1_1 + 1)) (wrap64 (x5_1 + 1))) = some (r1, r2) := by first | (rw [hy297]; with_reducible exact H) | (have H2_ := (Option.bind_some _ _).symm.trans H; rw [hy297]; with_reducible exact H2_) | (have H2_ := (Option.bind_some _ _).symm.trans H; with_reducible exact H2_) | with_reducible exact H | (rw [hy297]; exact H) | exact H
     have Ny297 := Aside0.mk hy297
     clear hy297
     have H' := Aside0.mk H
     clear H
     obtain ⟨Ao6, co6, eo6⟩ := Kd.R_slice HO_0.out
     subst eo6
     have p5 : 0 ≤ (x5_1 : Int) := td
     have q5 : (x5_1 : Int) < ((x0_1.length : Int) : Int) := td
     obtain ⟨go5, co5, eo5, gb5, gl5, cl5, HG5⟩ := Kd.R_form HO_0.out (by omega)
     (first | cases eo5 | (injection eo5 with ea_ en_ ec_; (first | subst ea_ | (injection ea_ with ea_; subst ea_)); subst ec_; clear en_))
     have GB5 := Aside0.mk gb5
     have GG5 := Aside0.mk HG5
     clear gb5 gl5 HG5
     have HMgo5 := Aside0.mk (show (P0_ go5 ∨ w.heap.size ≤ go5) from (HO_0.out.1 _ rfl))
     obtain ⟨hx5_0, hf5_0⟩ := Kd.R_celln 0 HO_0.out (x5_1 : Int) p5 q5
     replace p5 := eq_true p5
     replace q5 := eq_true q5
     have HP7 := Kd.R_putg HO_0.out (x5_1 : Int) x1_1
     go_wp2_with (first | ((with_reducible refine gate_store (t := 3) (p := 15) rfl ?_); refine store_event (t := 3) (p := 15) (v := ?vo_w8) (w1 := (wr.setCell ⟨go5, (x5_1 : Int).toNat, none⟩ (.int .i64 x1_1))) ?hg ?ho ?hn ?hr ?_; (case ho => rfl); (case hg => rfl); (case hn => rfl); (case hr => first | (go_simp; done) | (go_simp; rfl)); intro w8 hw; have hg : wr.grownBy w8 (some go5) := (by rw [hw]; exact HP7.2); have hp_ : Kd.R (Kd.int .i64) 3 w8 w0.heap.size (fun k_ => (P0_ k_ ∨ w.heap.size ≤ k_)) (.slice (some ⟨go5, 0, none⟩) x0_1.length co6) y297 := (by rw [hw, Ny297.out]; exact HP7.1); clear HP7; replace HB := Aside0.mk ((by rw [hw]; exact below_set (HB.out) GB5.out : Below w0.heap.size w0 w8)); replace HK := Aside0.mk (Kept.of_grown (S := (fun k_ => P0_ k_)) hg (by repeat (first | (with_reducible first | exact HK.out | apply Kept.alloc | apply Kept.drewN | apply Kept.drew) | exact HK.out)) (fun k_ e_ => (HO_0.out.1 k_ e_))); replace HO_0 := Aside0.mk (hp_); clear hg hw hp_))
     go_roundg k1
     case measure => have := HK1.out; omega
     case rel => exact ⟨(y297), (wrap64 (x1_1 + 1)), (wrap64 (x5_1 + 1)), tr, tr, H', ⟨by have := HK1.out; omega⟩, ⟨tR HO_0.out⟩, ⟨by repeat (first | (with_reducible first | exact HK.out | apply Kept.alloc | apply Kept.drewN | apply Kept.drew) | exact HK.out)⟩, ⟨zb⟩⟩
    ·rw [if_neg c4] at H
     exact absurd H (by simp)
   ·rw [if_neg c3] at H
    have c3b0 : decide (x5_1 < (x0_1.length : Int)) = false := decide_eq_false c3
    clear c3
    simp only [Option.some.injEq, Prod.mk.injEq] at H
    obtain ⟨rfl, rfl⟩ := H
    obtain ⟨Ao9, co9, eo9⟩ := Kd.R_slice HO_0.out
    subst eo9
    go_wp2
    go_ret
    exact ⟨by first | rfl | (simp [errW_none, errW_some] <;> rfl) | (simp [*, errW_none, errW_some] <;> rfl), tR HO_0.out, zb, by repeat (first | (with_reducible first | exact HK.out | apply Kept.alloc | apply Kept.drewN | apply Kept.drew) | exact HK.out)⟩

end Go.Proofs.YtfjkpdhldeopaaaDoor.G

