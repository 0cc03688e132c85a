/- A text of seat YtfjkpdhldeopaaaDoor: what the law FnExactBatchJoin needs of this repo's texts (by pack.py). Not trusted: Lean checks it. -/
import Derived.Test.YtfjkpdhldeopaaaDoorKFnExactBatchJoin9
import Derived.Deep.Slices
import Derived.SizedLaws
import Derived.Test.YtfjkpdhldeopaaaDoorRows
import Derived.Test.YtfjkpdhldeopaaaDoorCards
import Derived.Test.YtfjkpdhldeopaaaDoorTie
import Derived.SevenTiedAt
import Derived.WalkSmall
import Derived.ChangeVars
import Derived.JoinedOf
import Derived.LaidLaws
import Derived.LaidHandle
import Derived.Stop.LaidErr
import Derived.Stop.LaidTwo
import Derived.Stop.Joined
import Derived.RowKitTokens
import Derived.WalkKit
import Derived.ProofKit
import Derived.OpenShut
import Derived.ShutString
import Derived.ChangeOld
import Derived.Below
import Derived.Lib.SmallJoins
import Derived.Laws.StructEq
import Derived.ChangeSlices
namespace Go.Proofs.YtfjkpdhldeopaaaDoor.G
open Go.RowKit Go.Proofs.YtfjkpdhldeopaaaDoorW.PrintWords Go.Proofs.YtfjkpdhldeopaaaDoorW.PrintLast Go.Proofs.YtfjkpdhldeopaaaDoorW.PrintMore
set_option linter.unusedVariables false
set_option linter.unusedSimpArgs false
theorem St.alB {w W : World} {es : List En} (h : St w W es) : St w (W.alloc (.cells #[.bool false, .bool false, .int .i64 0, .int .i64 0, .int .i64 0, .slice none 0 0] 28 (0, 0))) (batE W.heap.size false false 0 0 0 (.slice none 0 0) :: es) := h.al
abbrev batL (g : Nat) (p m : Bool) (i j s : Int) (v : Value) : En := boxE g #[.bool p, .bool m, .int .i64 i, .int .i64 j, .int .i64 s, v] 24
structure FactsBJ (k : Nat) (a b : S24) (t u : Int) (x0 x1 g : S28) (ok : Bool) : Prop where
  s0 : laws_szBatch.f k a.f0 a.f1 a.f2 a.f3 a.f4 a.f5 1048576 = some t
  t0 : 0 ≤ t
  s1 : laws_szBatch.f k b.f0 b.f1 b.f2 b.f3 b.f4 b.f5 t = some u
  u0 : 0 ≤ u
  c0 : laws_toBatch.f k a.f0 a.f1 a.f2 a.f3 a.f4 a.f5 = some (x0.f0, x0.f1, x0.f2, x0.f3, x0.f4, x0.f5)
  c1 : laws_toBatch.f k b.f0 b.f1 b.f2 b.f3 b.f4 b.f5 = some (x1.f0, x1.f1, x1.f2, x1.f3, x1.f4, x1.f5)
  sj : spec_BatchJoin.f k x0.f0 x0.f1 x0.f2 x0.f3 x0.f4 x0.f5 x1.f0 x1.f1 x1.f2 x1.f3 x1.f4 x1.f5 = some (g.f0, g.f1, g.f2, g.f3, g.f4, g.f5, ok)
  ij : impl_BatchJoin.f k x0.f0 x0.f1 x0.f2 x0.f3 x0.f4 x0.f5 x1.f0 x1.f1 x1.f2 x1.f3 x1.f4 x1.f5 = some (g.f0, g.f1, g.f2, g.f3, g.f4, g.f5, ok)
  eg : laws_eqBatch.f k g.f0 g.f1 g.f2 g.f3 g.f4 g.f5 g.f0 g.f1 g.f2 g.f3 g.f4 g.f5 = some true
  e0 : laws_eqBatch.f k x0.f0 x0.f1 x0.f2 x0.f3 x0.f4 x0.f5 x0.f0 x0.f1 x0.f2 x0.f3 x0.f4 x0.f5 = some true
  e1 : laws_eqBatch.f k x1.f0 x1.f1 x1.f2 x1.f3 x1.f4 x1.f5 x1.f0 x1.f1 x1.f2 x1.f3 x1.f4 x1.f5 = some true
  hg : laws_heldBatch.f k g.f0 g.f1 g.f2 g.f3 g.f4 (mkRow 1 g.f5) 1 = some (1 + (totR g.f5 : Int))
  b0 : (totR x0.f5 : Int) ≤ 100000000000000
  b1 : (totR x1.f5 : Int) ≤ 100000000000000
  bg : (totR g.f5 : Int) ≤ 100000000000000
theorem laws_markBatch.callsA (P0 : Nat → Prop) (p m : Bool) (i j s : Int) (u : Value) (l : List S62) (a : Int) (w0 w : World) (hB : Below w0.heap.size w0 w) (ho : Kd.S k62 62 w w0.heap.size P0 u l) (h0 : 0 ≤ a) (h1 : a + (totR l : Int) ≤ 4000000000000000000) :
    Calls Tryd.prog 12 #[BatV p m i j s u, .int .i64 a] w fun e w' => e = .returned (.int .i64 (a + (totR l : Int))) ∧ Kd.S k62 62 w' w0.heap.size P0 u (mkRow a l) ∧ Below w0.heap.size w0 w' ∧ Kept w w' P0 := by
  obtain ⟨U, q, rfl⟩ := Kd.S_slice ho
  have HO := Aside0.mk ho
  have HB := Aside0.mk hB
  have HS := Aside0.mk (St.nil w)
  clear ho hB
  go_enter Tryd.func12, Tryd.ntmps12
  go_wp2_with (first
    | ((with_reducible refine gate_dst (N := 2) rfl ?_); refine w_box HS rfl rfl (by go_simp; try rfl) ?_; intro g W h_; clear HS; have HS := h_; clear h_; obtain ⟨f0, f1⟩ := HS.out.cells 0 rfl)
    | (go_at_call 32; with_reducible refine (laws_markRecordS.callsA P0 _ l a w0 _ (below_step HB.out HS.out.below) (Kd.S_below HO.out HS.out.below) h0 h1).mono ?_; rintro e W ⟨rfl, hs, hb, hk⟩; have HX := Aside0.mk (And.intro hs (And.intro hb hk)); clear hs hb hk))
  go_ret
  exact ⟨rfl, HX.out.1, HX.out.2.1, (Kept.of_below HS.out.below P0).then_ HX.out.2.2 (fun _ h => .inl h)⟩
theorem laws_heldBatch.callsA (k : Nat) (p m : Bool) (i j s : Int) (u : Value) (l : List S62) (a : Int) (b : Nat) (P : Nat → Prop) (W : World) (hs : Kd.S k62 62 W b P u (mkRow a l)) (h : laws_heldBatch.f k p m i j s (mkRow a l) a = some (a + (totR l : Int))) :
    Calls Tryd.prog 13 #[BatV p m i j s u, .int .i64 a] W fun e w' => e = .returned (.int .i64 (a + (totR l : Int))) ∧ Below W.heap.size W w' := by
  obtain ⟨A, c, rfl⟩ := Kd.S_slice hs
  have h2 := Kd.S_reads' hs
  exact laws_heldBatch.calls k p m i j s A c (mkRow a l) a _ W h2.2.2 h2.2.1 h
set_option maxRecDepth 1000000 in
set_option maxHeartbeats 4000000 in
theorem exBJ [ErrA] (k : Nat) (a : S24) (A : Option Addr) (c : Nat) (b : S24) (B : Option Addr) (d : Nat) (t u : Int) (x0 x1 g : S28) (ok : Bool) (w : World) (hE : ErrOk [0] w) (hr0 : Kd.C k71 w A a.f5.length a.f5) (hc0 : a.f5.length ≤ c) (hr1 : Kd.C k71 w B b.f5.length b.f5) (hc1 : b.f5.length ≤ d) (h : FactsBJ k a b t u x0 x1 g ok) :
    Calls Tryd.prog 3 #[BatV a.f0 a.f1 a.f2 a.f3 a.f4 (.slice A a.f5.length c), BatV b.f0 b.f1 b.f2 b.f3 b.f4 (.slice B b.f5.length d)] w fun e w' => e = .returned (.bool true) ∧ Below w.heap.size w w' := by
  have HE := Aside0.mk hE
  have HR0 := Aside0.mk hr0
  have HR1 := Aside0.mk hr1
  have HC := Aside0.mk (And.intro hc0 hc1)
  have HF := Aside0.mk h
  have t0 := h.t0
  have u0 := h.u0
  have HS := Aside0.mk (St.nil w)
  clear hE hr0 hr1 hc0 hc1 h
  go_enter Tryd.func3, Tryd.ntmps3
  go_upto_region 8 with (first
    | ((with_reducible refine gate_dst (N := 2) rfl ?_); refine w_box HS rfl rfl (by go_simp; try rfl) ?_; intro g_b2 W h_; clear HS; skip; have HS := h_; clear h_)
    | ((with_reducible refine gate_dst (N := 3) rfl ?_); refine w_box HS rfl rfl (by go_simp; try rfl) ?_; intro g_b3 W h_; clear HS; skip; have HS := h_; clear h_; obtain ⟨f_b2, z_b2⟩ := HS.out.cells 1 rfl; obtain ⟨f_b3, z_b3⟩ := HS.out.cells 0 rfl)
    | (go_at_call 7; with_reducible refine (laws_szBatch.calls k a.f0 a.f1 a.f2 a.f3 a.f4 A c a.f5 1048576 t _ (Kd.C_below HR0.out HS.out.below) HC.out.1 HF.out.s0).mono ?_; rintro e W ⟨rfl, hb⟩; replace HS := Aside0.mk (HS.out.call hb); clear hb; (try clear f_b2 z_b2 f_b3 z_b3); obtain ⟨f_b2, z_b2⟩ := HS.out.cells 1 rfl; obtain ⟨f_b3, z_b3⟩ := HS.out.cells 0 rfl)
    | (go_at_call 7; with_reducible refine (laws_szBatch.calls k b.f0 b.f1 b.f2 b.f3 b.f4 B d b.f5 t u _ (Kd.C_below HR1.out HS.out.below) HC.out.2 HF.out.s1).mono ?_; rintro e W ⟨rfl, hb⟩; replace HS := Aside0.mk (HS.out.call hb); clear hb; (try clear f_b2 z_b2 f_b3 z_b3); obtain ⟨f_b2, z_b2⟩ := HS.out.cells 1 rfl; obtain ⟨f_b3, z_b3⟩ := HS.out.cells 0 rfl))
  go_cut [6, 7] (fun vp vk wc => ∃ (g_b6 : Nat) (V_rG : Option Addr) (q_rG : Nat) (P_rG : Nat → Prop), vp = .pointer (some ⟨g_b6, 0, none⟩) ∧ vk = .bool ok ∧ Aside0 (St w wc [batE g_b6 g.f0 g.f1 g.f2 g.f3 g.f4 (.slice V_rG g.f5.length q_rG), rowS k62 62 w.heap.size (.slice V_rG g.f5.length q_rG) g.f5 P_rG, batL g_b3 b.f0 b.f1 b.f2 b.f3 b.f4 (.slice B b.f5.length d), batL g_b2 a.f0 a.f1 a.f2 a.f3 a.f4 (.slice A a.f5.length c)]))
  case first =>
    go_region_held3 (fun w' => (∀ j, w'.cell? ⟨g_b2, j, none⟩ = #[.bool a.f0, .bool a.f1, .int .i64 a.f2, .int .i64 a.f3, .int .i64 a.f4, .slice A a.f5.length c][j]?) ∧ (∀ j, w'.cell? ⟨g_b3, j, none⟩ = #[.bool b.f0, .bool b.f1, .int .i64 b.f2, .int .i64 b.f3, .int .i64 b.f4, .slice B b.f5.length d][j]?)) (first | (have h_ := HS.out.drew.cells 1 rfl; have k_ := HS.out.drew.cells 0 rfl; with_reducible exact ⟨h_.1, k_.1⟩) | (have h_ := HS.out.drew.cells 2 rfl; have k_ := HS.out.drew.cells 1 rfl; with_reducible exact ⟨h_.1, k_.1⟩) | (have h_ := HS.out.drew.cells 3 rfl; have k_ := HS.out.drew.cells 2 rfl; with_reducible exact ⟨h_.1, k_.1⟩) | (have h_ := HS.out.drew.cells 4 rfl; have k_ := HS.out.drew.cells 3 rfl; with_reducible exact ⟨h_.1, k_.1⟩) | (have h_ := HS.out.drew.cells 5 rfl; have k_ := HS.out.drew.cells 4 rfl; with_reducible exact ⟨h_.1, k_.1⟩) | (have h_ := HS.out.cells 1 rfl; have k_ := HS.out.cells 0 rfl; with_reducible exact ⟨h_.1, k_.1⟩) | (have h_ := HS.out.cells 2 rfl; have k_ := HS.out.cells 1 rfl; with_reducible exact ⟨h_.1, k_.1⟩) | (have h_ := HS.out.cells 3 rfl; have k_ := HS.out.cells 2 rfl; with_reducible exact ⟨h_.1, k_.1⟩) | (have h_ := HS.out.cells 4 rfl; have k_ := HS.out.cells 3 rfl; with_reducible exact ⟨h_.1, k_.1⟩) | (have h_ := HS.out.cells 5 rfl; have k_ := HS.out.cells 4 rfl; with_reducible exact ⟨h_.1, k_.1⟩) | (have h_ := HS.out.alB.cells 1 rfl; have k_ := HS.out.alB.cells 0 rfl; with_reducible exact ⟨h_.1, k_.1⟩) | (have h_ := HS.out.alB.cells 2 rfl; have k_ := HS.out.alB.cells 1 rfl; with_reducible exact ⟨h_.1, k_.1⟩) | (have h_ := HS.out.alB.cells 3 rfl; have k_ := HS.out.alB.cells 2 rfl; with_reducible exact ⟨h_.1, k_.1⟩) | (have h_ := HS.out.alB.cells 4 rfl; have k_ := HS.out.alB.cells 3 rfl; with_reducible exact ⟨h_.1, k_.1⟩) | (have h_ := HS.out.alB.cells 5 rfl; have k_ := HS.out.alB.cells 4 rfl; with_reducible exact ⟨h_.1, k_.1⟩) | (have h_ := HS.out.alB.drew.cells 1 rfl; have k_ := HS.out.alB.drew.cells 0 rfl; with_reducible exact ⟨h_.1, k_.1⟩) | (have h_ := HS.out.alB.drew.cells 2 rfl; have k_ := HS.out.alB.drew.cells 1 rfl; with_reducible exact ⟨h_.1, k_.1⟩) | (have h_ := HS.out.alB.drew.cells 3 rfl; have k_ := HS.out.alB.drew.cells 2 rfl; with_reducible exact ⟨h_.1, k_.1⟩) | (have h_ := HS.out.alB.drew.cells 4 rfl; have k_ := HS.out.alB.drew.cells 3 rfl; with_reducible exact ⟨h_.1, k_.1⟩) | (have h_ := HS.out.alB.drew.cells 5 rfl; have k_ := HS.out.alB.drew.cells 4 rfl; with_reducible exact ⟨h_.1, k_.1⟩) | (have h_ := (HS.out.al (cs := #[.bool g.f0, .bool g.f1, .int .i64 g.f2, .int .i64 g.f3, .int .i64 g.f4, .slice V g.f5.length q]) (t := 28)).cells 5 rfl; have k_ := (HS.out.al (cs := #[.bool g.f0, .bool g.f1, .int .i64 g.f2, .int .i64 g.f3, .int .i64 g.f4, .slice V g.f5.length q]) (t := 28)).cells 4 rfl; with_reducible exact ⟨h_.1, k_.1⟩) | (have h_ := (HS.out.set6 1 rfl (.bool g.f0) (.bool g.f1) (.int .i64 g.f2) (.int .i64 g.f3) (.int .i64 g.f4) (.slice V g.f5.length q)).cells 5 rfl; have k_ := (HS.out.set6 1 rfl (.bool g.f0) (.bool g.f1) (.int .i64 g.f2) (.int .i64 g.f3) (.int .i64 g.f4) (.slice V g.f5.length q)).cells 4 rfl; with_reducible exact ⟨h_.1, k_.1⟩) | (have h_ := (HS.out.set6 2 rfl (.bool g.f0) (.bool g.f1) (.int .i64 g.f2) (.int .i64 g.f3) (.int .i64 g.f4) (.slice V g.f5.length q)).cells 5 rfl; have k_ := (HS.out.set6 2 rfl (.bool g.f0) (.bool g.f1) (.int .i64 g.f2) (.int .i64 g.f3) (.int .i64 g.f4) (.slice V g.f5.length q)).cells 4 rfl; with_reducible exact ⟨h_.1, k_.1⟩) | (have h_ := (HS.out.set6 3 rfl (.bool g.f0) (.bool g.f1) (.int .i64 g.f2) (.int .i64 g.f3) (.int .i64 g.f4) (.slice V g.f5.length q)).cells 5 rfl; have k_ := (HS.out.set6 3 rfl (.bool g.f0) (.bool g.f1) (.int .i64 g.f2) (.int .i64 g.f3) (.int .i64 g.f4) (.slice V g.f5.length q)).cells 4 rfl; with_reducible exact ⟨h_.1, k_.1⟩)) (first | (go_at_call 9; with_reducible refine (laws_toBatch.calls k a.f0 a.f1 a.f2 a.f3 a.f4 _ _ a.f5 _ _ _ _ _ _ _ (Kd.C_below HR0.out (by first | (have h_ := HS.out.below; with_reducible exact h_) | (have h_ := HS.out.drew.below; with_reducible exact h_) | exact HS.out.alB.below | exact HS.out.alB.drew.below)) HC.out.1 HF.out.c0).mono ?_; rintro e W2 ⟨v, rfl, hs, hb⟩; obtain ⟨V, q, rfl⟩ := Kd.S_slice hs; (first | (with_reducible replace HS := Aside0.mk (HS.out.pushS hs hb)) | (with_reducible replace HS := Aside0.mk (HS.out.drew.pushS hs hb)) | replace HS := Aside0.mk (HS.out.alB.pushS hs hb) | replace HS := Aside0.mk (HS.out.alB.drew.pushS hs hb)); clear hs hb; (first | (obtain ⟨q0, q1⟩ := HS.out.cells (cs := #[.bool false, .bool false, .int .i64 0, .int .i64 0, .int .i64 0, .slice none 0 0]) (t := 28) 1 rfl) | (obtain ⟨q0, q1⟩ := HS.out.cells (cs := #[.bool false, .bool false, .int .i64 0, .int .i64 0, .int .i64 0, .slice none 0 0]) (t := 28) 2 rfl) | (obtain ⟨q0, q1⟩ := HS.out.cells (cs := #[.bool false, .bool false, .int .i64 0, .int .i64 0, .int .i64 0, .slice none 0 0]) (t := 28) 3 rfl) | skip)) | (go_at_call 9; with_reducible refine (laws_toBatch.calls k b.f0 b.f1 b.f2 b.f3 b.f4 _ _ b.f5 _ _ _ _ _ _ _ (Kd.C_below HR1.out (by first | (have h_ := HS.out.below; with_reducible exact h_) | (have h_ := HS.out.drew.below; with_reducible exact h_) | exact HS.out.alB.below | exact HS.out.alB.drew.below)) HC.out.2 HF.out.c1).mono ?_; rintro e W2 ⟨v, rfl, hs, hb⟩; obtain ⟨V, q, rfl⟩ := Kd.S_slice hs; (first | (with_reducible replace HS := Aside0.mk (HS.out.pushS hs hb)) | (with_reducible replace HS := Aside0.mk (HS.out.drew.pushS hs hb)) | replace HS := Aside0.mk (HS.out.alB.pushS hs hb) | replace HS := Aside0.mk (HS.out.alB.drew.pushS hs hb)); clear hs hb; (first | (obtain ⟨q0, q1⟩ := HS.out.cells (cs := #[.bool false, .bool false, .int .i64 0, .int .i64 0, .int .i64 0, .slice none 0 0]) (t := 28) 1 rfl) | (obtain ⟨q0, q1⟩ := HS.out.cells (cs := #[.bool false, .bool false, .int .i64 0, .int .i64 0, .int .i64 0, .slice none 0 0]) (t := 28) 2 rfl) | (obtain ⟨q0, q1⟩ := HS.out.cells (cs := #[.bool false, .bool false, .int .i64 0, .int .i64 0, .int .i64 0, .slice none 0 0]) (t := 28) 3 rfl) | skip)) | (go_at_call 8; with_reducible refine (spec_BatchJoin.callsS k x0.f0 x0.f1 x0.f2 x0.f3 x0.f4 _ _ x0.f5 x1.f0 x1.f1 x1.f2 x1.f3 x1.f4 _ _ x1.f5 _ _ _ _ _ _ _ _ ?c1 ?c2 ?c3 ?c4 HF.out.sj).mono ?_; (case c1 => first | (have h_ := HS.out.getC 0 rfl; with_reducible exact h_) | (have h_ := HS.out.getC 1 rfl; with_reducible exact h_) | (have h_ := HS.out.getC 2 rfl; with_reducible exact h_) | (have h_ := HS.out.alB.getC 0 rfl; with_reducible exact h_) | (have h_ := HS.out.alB.getC 1 rfl; with_reducible exact h_) | (have h_ := HS.out.alB.getC 2 rfl; with_reducible exact h_)); (case c2 => first | (have h_ := HS.out.getL 0 rfl; with_reducible exact h_) | (have h_ := HS.out.getL 1 rfl; with_reducible exact h_) | (have h_ := HS.out.getL 2 rfl; with_reducible exact h_) | (have h_ := HS.out.alB.getL 0 rfl; with_reducible exact h_) | (have h_ := HS.out.alB.getL 1 rfl; with_reducible exact h_) | (have h_ := HS.out.alB.getL 2 rfl; with_reducible exact h_)); (case c3 => first | (have h_ := HS.out.getC 0 rfl; with_reducible exact h_) | (have h_ := HS.out.getC 1 rfl; with_reducible exact h_) | (have h_ := HS.out.getC 2 rfl; with_reducible exact h_) | (have h_ := HS.out.alB.getC 0 rfl; with_reducible exact h_) | (have h_ := HS.out.alB.getC 1 rfl; with_reducible exact h_) | (have h_ := HS.out.alB.getC 2 rfl; with_reducible exact h_)); (case c4 => first | (have h_ := HS.out.getL 0 rfl; with_reducible exact h_) | (have h_ := HS.out.getL 1 rfl; with_reducible exact h_) | (have h_ := HS.out.getL 2 rfl; with_reducible exact h_) | (have h_ := HS.out.alB.getL 0 rfl; with_reducible exact h_) | (have h_ := HS.out.alB.getL 1 rfl; with_reducible exact h_) | (have h_ := HS.out.alB.getL 2 rfl; with_reducible exact h_)); rintro e W2 ⟨v, rfl, hs, hb⟩; obtain ⟨V, q, rfl⟩ := Kd.S_slice hs; (first | (with_reducible replace HS := Aside0.mk (HS.out.pushS hs hb)) | (with_reducible replace HS := Aside0.mk (HS.out.drew.pushS hs hb)) | replace HS := Aside0.mk (HS.out.alB.pushS hs hb) | replace HS := Aside0.mk (HS.out.alB.drew.pushS hs hb)); clear hs hb; (first | (obtain ⟨q0, q1⟩ := HS.out.cells (cs := #[.bool false, .bool false, .int .i64 0, .int .i64 0, .int .i64 0, .slice none 0 0]) (t := 28) 1 rfl) | (obtain ⟨q0, q1⟩ := HS.out.cells (cs := #[.bool false, .bool false, .int .i64 0, .int .i64 0, .int .i64 0, .slice none 0 0]) (t := 28) 2 rfl) | (obtain ⟨q0, q1⟩ := HS.out.cells (cs := #[.bool false, .bool false, .int .i64 0, .int .i64 0, .int .i64 0, .slice none 0 0]) (t := 28) 3 rfl) | skip)))
    all_goals
      go_step
      go_step
      go_meet
      case rel => first | (have h_ := ((HS.out.al (cs := #[.bool g.f0, .bool g.f1, .int .i64 g.f2, .int .i64 g.f3, .int .i64 g.f4, .slice V g.f5.length q]) (t := 28)).del 2).del 2; simp only [List.eraseIdx_cons_zero, List.eraseIdx_cons_succ, List.set_cons_zero, List.set_cons_succ] at h_; with_reducible exact ⟨_, _, _, _, rfl, rfl, ⟨h_⟩⟩) | (have h_ := (((HS.out.set6 1 rfl (.bool g.f0) (.bool g.f1) (.int .i64 g.f2) (.int .i64 g.f3) (.int .i64 g.f4) (.slice V g.f5.length q)).front 1 rfl).del 2).del 2; simp only [List.eraseIdx_cons_zero, List.eraseIdx_cons_succ, List.set_cons_zero, List.set_cons_succ] at h_; with_reducible exact ⟨_, _, _, _, rfl, rfl, ⟨h_⟩⟩) | (have h_ := (((HS.out.set6 2 rfl (.bool g.f0) (.bool g.f1) (.int .i64 g.f2) (.int .i64 g.f3) (.int .i64 g.f4) (.slice V g.f5.length q)).front 2 rfl).del 2).del 2; simp only [List.eraseIdx_cons_zero, List.eraseIdx_cons_succ, List.set_cons_zero, List.set_cons_succ] at h_; with_reducible exact ⟨_, _, _, _, rfl, rfl, ⟨h_⟩⟩) | (have h_ := (((HS.out.set6 3 rfl (.bool g.f0) (.bool g.f1) (.int .i64 g.f2) (.int .i64 g.f3) (.int .i64 g.f4) (.slice V g.f5.length q)).front 3 rfl).del 2).del 2; simp only [List.eraseIdx_cons_zero, List.eraseIdx_cons_succ, List.set_cons_zero, List.set_cons_succ] at h_; with_reducible exact ⟨_, _, _, _, rfl, rfl, ⟨h_⟩⟩)
  case rest =>
    obtain ⟨g_b6, V_rG, q_rG, P_rG, rfl, rfl, HS⟩ := hcut
    (try clear f_b2 z_b2 f_b3 z_b3)
    obtain ⟨f_b3, z_b3⟩ := HS.out.cells 2 rfl
    obtain ⟨f_b2, z_b2⟩ := HS.out.cells 3 rfl
    go_upto_region 14 with (first
      | (go_at_call 9; with_reducible refine (laws_toBatch.calls k a.f0 a.f1 a.f2 a.f3 a.f4 A c a.f5 x0.f0 x0.f1 x0.f2 x0.f3 x0.f4 x0.f5 _ (Kd.C_below HR0.out HS.out.below) HC.out.1 HF.out.c0).mono ?_; rintro e W ⟨v, rfl, hs, hb⟩; obtain ⟨V_rX0, q_rX0, rfl⟩ := Kd.S_slice hs; replace HS := Aside0.mk (HS.out.pushS hs hb); clear hs hb; (try clear f_b3 z_b3 f_b2 z_b2); obtain ⟨f_b3, z_b3⟩ := HS.out.cells 3 rfl; obtain ⟨f_b2, z_b2⟩ := HS.out.cells 4 rfl)
      | ((with_reducible refine gate_dst (N := 8) rfl ?_); refine w_box HS rfl rfl (by go_simp; try rfl) ?_; intro g_b8 W h_; clear HS; (try clear f_b3 z_b3 f_b2 z_b2); have HS := h_; clear h_; obtain ⟨f_b8, z_b8⟩ := HS.out.cells 0 rfl; obtain ⟨f_b3, z_b3⟩ := HS.out.cells 4 rfl; obtain ⟨f_b2, z_b2⟩ := HS.out.cells 5 rfl)
      | ((with_reducible refine gate_store (t := 28) (p := 8) rfl ?_); refine w_put rfl rfl (by go_simp; try rfl) (HS.out.set6 0 rfl _ _ _ _ _ _) ?_; intro W h_; clear HS; (try clear f_b8 z_b8 f_b3 z_b3 f_b2 z_b2); have HS := h_; clear h_; (try simp only [List.set_cons_zero, List.set_cons_succ] at HS); obtain ⟨f_b8, z_b8⟩ := HS.out.cells 0 rfl; obtain ⟨f_b3, z_b3⟩ := HS.out.cells 4 rfl; obtain ⟨f_b2, z_b2⟩ := HS.out.cells 5 rfl)
      | (go_at_call 9; with_reducible refine (laws_toBatch.calls k b.f0 b.f1 b.f2 b.f3 b.f4 B d b.f5 x1.f0 x1.f1 x1.f2 x1.f3 x1.f4 x1.f5 _ (Kd.C_below HR1.out HS.out.below) HC.out.2 HF.out.c1).mono ?_; rintro e W ⟨v, rfl, hs, hb⟩; obtain ⟨V_rX1, q_rX1, rfl⟩ := Kd.S_slice hs; replace HS := Aside0.mk (HS.out.pushS hs hb); clear hs hb; (try clear f_b8 z_b8 f_b3 z_b3 f_b2 z_b2); obtain ⟨f_b8, z_b8⟩ := HS.out.cells 1 rfl; obtain ⟨f_b3, z_b3⟩ := HS.out.cells 5 rfl; obtain ⟨f_b2, z_b2⟩ := HS.out.cells 6 rfl)
      | ((with_reducible refine gate_dst (N := 9) rfl ?_); refine w_box HS rfl rfl (by go_simp; try rfl) ?_; intro g_b9 W h_; clear HS; (try clear f_b8 z_b8 f_b3 z_b3 f_b2 z_b2); have HS := h_; clear h_; obtain ⟨f_b9, z_b9⟩ := HS.out.cells 0 rfl; obtain ⟨f_b8, z_b8⟩ := HS.out.cells 2 rfl; obtain ⟨f_b3, z_b3⟩ := HS.out.cells 6 rfl; obtain ⟨f_b2, z_b2⟩ := HS.out.cells 7 rfl)
      | ((with_reducible refine gate_store (t := 28) (p := 9) rfl ?_); refine w_put rfl rfl (by go_simp; try rfl) (HS.out.set6 0 rfl _ _ _ _ _ _) ?_; intro W h_; clear HS; (try clear f_b9 z_b9 f_b8 z_b8 f_b3 z_b3 f_b2 z_b2); have HS := h_; clear h_; (try simp only [List.set_cons_zero, List.set_cons_succ] at HS); obtain ⟨f_b9, z_b9⟩ := HS.out.cells 0 rfl; obtain ⟨f_b8, z_b8⟩ := HS.out.cells 2 rfl; obtain ⟨f_b3, z_b3⟩ := HS.out.cells 6 rfl; obtain ⟨f_b2, z_b2⟩ := HS.out.cells 7 rfl)
      | (go_at_call 10; with_reducible refine (impl_BatchJoin.callsS k x0.f0 x0.f1 x0.f2 x0.f3 x0.f4 _ _ x0.f5 x1.f0 x1.f1 x1.f2 x1.f3 x1.f4 _ _ x1.f5 g.f0 g.f1 g.f2 g.f3 g.f4 g.f5 ok _ (ErrOk.below HE.out HS.out.below) (HS.out.getC 3 rfl) (HS.out.getL 3 rfl) (HS.out.getC 1 rfl) (HS.out.getL 1 rfl) HF.out.ij).mono ?_; rintro e W ⟨v, rfl, hs, hb⟩; obtain ⟨V_rH, q_rH, rfl⟩ := Kd.S_slice hs; replace HS := Aside0.mk (HS.out.pushS hs hb); clear hs hb; (try clear f_b9 z_b9 f_b8 z_b8 f_b3 z_b3 f_b2 z_b2); obtain ⟨f_b9, z_b9⟩ := HS.out.cells 1 rfl; obtain ⟨f_b8, z_b8⟩ := HS.out.cells 3 rfl; obtain ⟨f_b3, z_b3⟩ := HS.out.cells 7 rfl; obtain ⟨f_b2, z_b2⟩ := HS.out.cells 8 rfl)
      | ((with_reducible refine gate_dst (N := 10) rfl ?_); refine w_box HS rfl rfl (by go_simp; try rfl) ?_; intro g_b10 W h_; clear HS; (try clear f_b9 z_b9 f_b8 z_b8 f_b3 z_b3 f_b2 z_b2); have HS := h_; clear h_; obtain ⟨f_b10, z_b10⟩ := HS.out.cells 0 rfl; obtain ⟨f_b9, z_b9⟩ := HS.out.cells 2 rfl; obtain ⟨f_b8, z_b8⟩ := HS.out.cells 4 rfl; obtain ⟨f_b6, z_b6⟩ := HS.out.cells 6 rfl; obtain ⟨f_b3, z_b3⟩ := HS.out.cells 8 rfl; obtain ⟨f_b2, z_b2⟩ := HS.out.cells 9 rfl)
      | ((with_reducible refine gate_store (t := 28) (p := 10) rfl ?_); refine w_put rfl rfl (by go_simp; try rfl) (HS.out.set6 0 rfl _ _ _ _ _ _) ?_; intro W h_; clear HS; (try clear f_b10 z_b10 f_b9 z_b9 f_b8 z_b8 f_b6 z_b6 f_b3 z_b3 f_b2 z_b2); have HS := h_; clear h_; (try simp only [List.set_cons_zero, List.set_cons_succ] at HS); obtain ⟨f_b10, z_b10⟩ := HS.out.cells 0 rfl; obtain ⟨f_b9, z_b9⟩ := HS.out.cells 2 rfl; obtain ⟨f_b8, z_b8⟩ := HS.out.cells 4 rfl; obtain ⟨f_b6, z_b6⟩ := HS.out.cells 6 rfl; obtain ⟨f_b3, z_b3⟩ := HS.out.cells 8 rfl; obtain ⟨f_b2, z_b2⟩ := HS.out.cells 9 rfl)
      | (go_at_call 11; with_reducible refine (laws_eqBatch.calls k g.f0 g.f1 g.f2 g.f3 g.f4 _ _ g.f5 g.f0 g.f1 g.f2 g.f3 g.f4 _ _ g.f5 true _ (HS.out.getC 1 rfl) (HS.out.getL 1 rfl) (HS.out.getC 7 rfl) (HS.out.getL 7 rfl) HF.out.eg).mono ?_; rintro e W ⟨rfl, hb⟩; replace HS := Aside0.mk (HS.out.call hb); clear hb; (try clear f_b10 z_b10 f_b9 z_b9 f_b8 z_b8 f_b6 z_b6 f_b3 z_b3 f_b2 z_b2); obtain ⟨f_b10, z_b10⟩ := HS.out.cells 0 rfl; obtain ⟨f_b9, z_b9⟩ := HS.out.cells 2 rfl; obtain ⟨f_b8, z_b8⟩ := HS.out.cells 4 rfl; obtain ⟨f_b6, z_b6⟩ := HS.out.cells 6 rfl; obtain ⟨f_b3, z_b3⟩ := HS.out.cells 8 rfl; obtain ⟨f_b2, z_b2⟩ := HS.out.cells 9 rfl))
    refine q_begin (fun W => St w W _) [] 5 (by kernel_rfl) rfl HS.out.drew (fun hS => ?_)
    generalize World.drew _ = W at hS ⊢
    clear HS; (try clear f_b10 z_b10 f_b9 z_b9 f_b8 z_b8 f_b6 z_b6 f_b3 z_b3 f_b2 z_b2)
    have HS := Aside0.mk hS
    refine q_go (v := ?_) (by kernel_rfl) (by rfl) (fun _ _ _ h => h) hS ?_ ?_
    rotate_left
    focus (intro w hS; have f_b10 := (hS.cells 0 rfl).1; have f_b9 := (hS.cells 2 rfl).1; have f_b8 := (hS.cells 4 rfl).1; have f_b6 := (hS.cells 6 rfl).1; have f_b3 := (hS.cells 8 rfl).1; have f_b2 := (hS.cells 9 rfl).1; go_simp; first | done | with_reducible rfl)
    simp only [Act.put, List.setIfInBounds_toArray, List.set_cons_zero, List.set_cons_succ, Nat.reduceAdd]
    refine q_go (v := ?_) (by kernel_rfl) (by rfl) (fun _ _ _ h => h) hS ?_ ?_
    rotate_left
    focus (intro w hS; have f_b10 := (hS.cells 0 rfl).1; have f_b9 := (hS.cells 2 rfl).1; have f_b8 := (hS.cells 4 rfl).1; have f_b6 := (hS.cells 6 rfl).1; have f_b3 := (hS.cells 8 rfl).1; have f_b2 := (hS.cells 9 rfl).1; go_simp; first | done | with_reducible rfl)
    simp only [Act.put, List.setIfInBounds_toArray, List.set_cons_zero, List.set_cons_succ, Nat.reduceAdd]
    refine q_call (by kernel_rfl) (by decide) (by rfl) Tryd.func9 (by kernel_rfl) rfl #[BatV a.f0 a.f1 a.f2 a.f3 a.f4 (.slice A a.f5.length c)] rfl tq ?_
    refine (laws_toBatch.calls k a.f0 a.f1 a.f2 a.f3 a.f4 A c a.f5 x0.f0 x0.f1 x0.f2 x0.f3 x0.f4 x0.f5 _ (Kd.C_below HR0.out HS.out.below) HC.out.1 HF.out.c0).mono ?_
    rintro e W ⟨v, rfl, hs, hb⟩; obtain ⟨V_rY0, q_rY0, rfl⟩ := Kd.S_slice hs; refine ⟨_, rfl, hS.call hb, fun hS => ?_⟩; replace HS := Aside0.mk (HS.out.pushS hs hb); clear hs hb
    simp only [Act.put, List.setIfInBounds_toArray, List.set_cons_zero, List.set_cons_succ, Nat.reduceAdd]
    refine q_call (by kernel_rfl) (by decide) (by rfl) Tryd.func11 (by kernel_rfl) rfl #[BatV x0.f0 x0.f1 x0.f2 x0.f3 x0.f4 (.slice V_rX0 x0.f5.length q_rX0), BatV x0.f0 x0.f1 x0.f2 x0.f3 x0.f4 (.slice V_rY0 x0.f5.length q_rY0)] rfl tq ?_
    refine (laws_eqBatch.calls k x0.f0 x0.f1 x0.f2 x0.f3 x0.f4 _ _ x0.f5 x0.f0 x0.f1 x0.f2 x0.f3 x0.f4 _ _ x0.f5 true _ (HS.out.getC 6 rfl) (HS.out.getL 6 rfl) (HS.out.getC 0 rfl) (HS.out.getL 0 rfl) HF.out.e0).mono ?_
    rintro e W ⟨rfl, hb⟩; refine ⟨_, rfl, hS.call hb, fun hS => ?_⟩; replace HS := Aside0.mk (HS.out.call hb); clear hb
    simp only [Act.put, List.setIfInBounds_toArray, List.set_cons_zero, List.set_cons_succ, Nat.reduceAdd]
    refine q_go (v := ?_) (by kernel_rfl) (by rfl) (fun _ _ _ h => h) hS ?_ ?_
    rotate_left
    focus (intro w hS; have f_b10 := (hS.cells 0 rfl).1; have f_b9 := (hS.cells 2 rfl).1; have f_b8 := (hS.cells 4 rfl).1; have f_b6 := (hS.cells 6 rfl).1; have f_b3 := (hS.cells 8 rfl).1; have f_b2 := (hS.cells 9 rfl).1; go_simp; first | done | with_reducible rfl)
    simp only [Act.put, List.setIfInBounds_toArray, List.set_cons_zero, List.set_cons_succ, Nat.reduceAdd]
    refine q_done (by kernel_rfl) ?_
    clear hS
    obtain ⟨f_b10, z_b10⟩ := HS.out.cells 1 rfl
    obtain ⟨f_b9, z_b9⟩ := HS.out.cells 3 rfl
    obtain ⟨f_b8, z_b8⟩ := HS.out.cells 5 rfl
    obtain ⟨f_b6, z_b6⟩ := HS.out.cells 7 rfl
    obtain ⟨f_b3, z_b3⟩ := HS.out.cells 9 rfl
    obtain ⟨f_b2, z_b2⟩ := HS.out.cells 10 rfl
    go_upto_region 16 with (first
      | fail)
    refine q_begin (fun W => St w W _) [] 5 (by kernel_rfl) rfl HS.out.drew (fun hS => ?_)
    generalize World.drew _ = W at hS ⊢
    clear HS; (try clear f_b10 z_b10 f_b9 z_b9 f_b8 z_b8 f_b6 z_b6 f_b3 z_b3 f_b2 z_b2)
    have HS := Aside0.mk hS
    refine q_go (v := ?_) (by kernel_rfl) (by rfl) (fun _ _ _ h => h) hS ?_ ?_
    rotate_left
    focus (intro w hS; have f_b10 := (hS.cells 1 rfl).1; have f_b9 := (hS.cells 3 rfl).1; have f_b8 := (hS.cells 5 rfl).1; have f_b6 := (hS.cells 7 rfl).1; have f_b3 := (hS.cells 9 rfl).1; have f_b2 := (hS.cells 10 rfl).1; go_simp; first | done | with_reducible rfl)
    simp only [Act.put, List.setIfInBounds_toArray, List.set_cons_zero, List.set_cons_succ, Nat.reduceAdd]
    refine q_go (v := ?_) (by kernel_rfl) (by rfl) (fun _ _ _ h => h) hS ?_ ?_
    rotate_left
    focus (intro w hS; have f_b10 := (hS.cells 1 rfl).1; have f_b9 := (hS.cells 3 rfl).1; have f_b8 := (hS.cells 5 rfl).1; have f_b6 := (hS.cells 7 rfl).1; have f_b3 := (hS.cells 9 rfl).1; have f_b2 := (hS.cells 10 rfl).1; go_simp; first | done | with_reducible rfl)
    simp only [Act.put, List.setIfInBounds_toArray, List.set_cons_zero, List.set_cons_succ, Nat.reduceAdd]
    refine q_call (by kernel_rfl) (by decide) (by rfl) Tryd.func9 (by kernel_rfl) rfl #[BatV b.f0 b.f1 b.f2 b.f3 b.f4 (.slice B b.f5.length d)] rfl tq ?_
    refine (laws_toBatch.calls k b.f0 b.f1 b.f2 b.f3 b.f4 B d b.f5 x1.f0 x1.f1 x1.f2 x1.f3 x1.f4 x1.f5 _ (Kd.C_below HR1.out HS.out.below) HC.out.2 HF.out.c1).mono ?_
    rintro e W ⟨v, rfl, hs, hb⟩; obtain ⟨V_rY1, q_rY1, rfl⟩ := Kd.S_slice hs; refine ⟨_, rfl, hS.call hb, fun hS => ?_⟩; replace HS := Aside0.mk (HS.out.pushS hs hb); clear hs hb
    simp only [Act.put, List.setIfInBounds_toArray, List.set_cons_zero, List.set_cons_succ, Nat.reduceAdd]
    refine q_call (by kernel_rfl) (by decide) (by rfl) Tryd.func11 (by kernel_rfl) rfl #[BatV x1.f0 x1.f1 x1.f2 x1.f3 x1.f4 (.slice V_rX1 x1.f5.length q_rX1), BatV x1.f0 x1.f1 x1.f2 x1.f3 x1.f4 (.slice V_rY1 x1.f5.length q_rY1)] rfl tq ?_
    refine (laws_eqBatch.calls k x1.f0 x1.f1 x1.f2 x1.f3 x1.f4 _ _ x1.f5 x1.f0 x1.f1 x1.f2 x1.f3 x1.f4 _ _ x1.f5 true _ (HS.out.getC 5 rfl) (HS.out.getL 5 rfl) (HS.out.getC 0 rfl) (HS.out.getL 0 rfl) HF.out.e1).mono ?_
    rintro e W ⟨rfl, hb⟩; refine ⟨_, rfl, hS.call hb, fun hS => ?_⟩; replace HS := Aside0.mk (HS.out.call hb); clear hb
    simp only [Act.put, List.setIfInBounds_toArray, List.set_cons_zero, List.set_cons_succ, Nat.reduceAdd]
    refine q_go (v := ?_) (by kernel_rfl) (by rfl) (fun _ _ _ h => h) hS ?_ ?_
    rotate_left
    focus (intro w hS; have f_b10 := (hS.cells 1 rfl).1; have f_b9 := (hS.cells 3 rfl).1; have f_b8 := (hS.cells 5 rfl).1; have f_b6 := (hS.cells 7 rfl).1; have f_b3 := (hS.cells 9 rfl).1; have f_b2 := (hS.cells 10 rfl).1; go_simp; first | done | with_reducible rfl)
    simp only [Act.put, List.setIfInBounds_toArray, List.set_cons_zero, List.set_cons_succ, Nat.reduceAdd]
    refine q_done (by kernel_rfl) ?_
    clear hS
    obtain ⟨f_b10, z_b10⟩ := HS.out.cells 2 rfl
    obtain ⟨f_b9, z_b9⟩ := HS.out.cells 4 rfl
    obtain ⟨f_b8, z_b8⟩ := HS.out.cells 6 rfl
    obtain ⟨f_b6, z_b6⟩ := HS.out.cells 8 rfl
    obtain ⟨f_b3, z_b3⟩ := HS.out.cells 10 rfl
    obtain ⟨f_b2, z_b2⟩ := HS.out.cells 11 rfl
    go_upto_region 31 with (first
      | (go_at_call 12; with_reducible refine (laws_markBatch.callsA _ x0.f0 x0.f1 x0.f2 x0.f3 x0.f4 _ x0.f5 1 w _ HS.out.below (HS.out.getS 7 rfl) (by omega) (by have := HF.out.b0; omega)).mono ?_; rintro e W ⟨rfl, hs, hb, hk⟩; replace HS := Aside0.mk (HS.out.markS 7 rfl hs hb hk); clear hs hb hk; (try simp only [List.set_cons_zero, List.set_cons_succ] at HS); (try clear f_b10 z_b10 f_b9 z_b9 f_b8 z_b8 f_b6 z_b6 f_b3 z_b3 f_b2 z_b2); obtain ⟨f_b10, z_b10⟩ := HS.out.cells 2 rfl; obtain ⟨f_b9, z_b9⟩ := HS.out.cells 4 rfl; obtain ⟨f_b8, z_b8⟩ := HS.out.cells 6 rfl; obtain ⟨f_b6, z_b6⟩ := HS.out.cells 8 rfl; obtain ⟨f_b3, z_b3⟩ := HS.out.cells 10 rfl; obtain ⟨f_b2, z_b2⟩ := HS.out.cells 11 rfl)
      | (go_at_call 12; with_reducible refine (laws_markBatch.callsA _ x1.f0 x1.f1 x1.f2 x1.f3 x1.f4 _ x1.f5 (1 + (totR x0.f5 : Int)) w _ HS.out.below (HS.out.getS 5 rfl) (by omega) (by have := HF.out.b0; have := HF.out.b1; omega)).mono ?_; rintro e W ⟨rfl, hs, hb, hk⟩; replace HS := Aside0.mk (HS.out.markS 5 rfl hs hb hk); clear hs hb hk; (try simp only [List.set_cons_zero, List.set_cons_succ] at HS); (try clear f_b10 z_b10 f_b9 z_b9 f_b8 z_b8 f_b6 z_b6 f_b3 z_b3 f_b2 z_b2); obtain ⟨f_b10, z_b10⟩ := HS.out.cells 2 rfl; obtain ⟨f_b9, z_b9⟩ := HS.out.cells 4 rfl; obtain ⟨f_b8, z_b8⟩ := HS.out.cells 6 rfl; obtain ⟨f_b6, z_b6⟩ := HS.out.cells 8 rfl; obtain ⟨f_b3, z_b3⟩ := HS.out.cells 10 rfl; obtain ⟨f_b2, z_b2⟩ := HS.out.cells 11 rfl)
      | (go_at_call 11; with_reducible refine (laws_eqBatch.calls k g.f0 g.f1 g.f2 g.f3 g.f4 _ _ g.f5 g.f0 g.f1 g.f2 g.f3 g.f4 _ _ g.f5 true _ (HS.out.getC 3 rfl) (HS.out.getL 3 rfl) (HS.out.getC 9 rfl) (HS.out.getL 9 rfl) HF.out.eg).mono ?_; rintro e W ⟨rfl, hb⟩; replace HS := Aside0.mk (HS.out.call hb); clear hb; (try clear f_b10 z_b10 f_b9 z_b9 f_b8 z_b8 f_b6 z_b6 f_b3 z_b3 f_b2 z_b2); obtain ⟨f_b10, z_b10⟩ := HS.out.cells 2 rfl; obtain ⟨f_b9, z_b9⟩ := HS.out.cells 4 rfl; obtain ⟨f_b8, z_b8⟩ := HS.out.cells 6 rfl; obtain ⟨f_b6, z_b6⟩ := HS.out.cells 8 rfl; obtain ⟨f_b3, z_b3⟩ := HS.out.cells 10 rfl; obtain ⟨f_b2, z_b2⟩ := HS.out.cells 11 rfl)
      | (go_at_call 12; with_reducible refine (laws_markBatch.callsA _ g.f0 g.f1 g.f2 g.f3 g.f4 _ g.f5 1 w _ HS.out.below (HS.out.getS 3 rfl) (by omega) (by have := HF.out.bg; omega)).mono ?_; rintro e W ⟨rfl, hs, hb, hk⟩; replace HS := Aside0.mk (HS.out.markS 3 rfl hs hb hk); clear hs hb hk; (try simp only [List.set_cons_zero, List.set_cons_succ] at HS); (try clear f_b10 z_b10 f_b9 z_b9 f_b8 z_b8 f_b6 z_b6 f_b3 z_b3 f_b2 z_b2); obtain ⟨f_b10, z_b10⟩ := HS.out.cells 2 rfl; obtain ⟨f_b9, z_b9⟩ := HS.out.cells 4 rfl; obtain ⟨f_b8, z_b8⟩ := HS.out.cells 6 rfl; obtain ⟨f_b6, z_b6⟩ := HS.out.cells 8 rfl; obtain ⟨f_b3, z_b3⟩ := HS.out.cells 10 rfl; obtain ⟨f_b2, z_b2⟩ := HS.out.cells 11 rfl)
      | (go_at_call 13; with_reducible refine (laws_heldBatch.callsA k g.f0 g.f1 g.f2 g.f3 g.f4 _ g.f5 1 _ _ _ (HS.out.getS 3 rfl) HF.out.hg).mono ?_; rintro e W ⟨rfl, hb⟩; replace HS := Aside0.mk (HS.out.call hb); clear hb; (try clear f_b10 z_b10 f_b9 z_b9 f_b8 z_b8 f_b6 z_b6 f_b3 z_b3 f_b2 z_b2); obtain ⟨f_b10, z_b10⟩ := HS.out.cells 2 rfl; obtain ⟨f_b9, z_b9⟩ := HS.out.cells 4 rfl; obtain ⟨f_b8, z_b8⟩ := HS.out.cells 6 rfl; obtain ⟨f_b6, z_b6⟩ := HS.out.cells 8 rfl; obtain ⟨f_b3, z_b3⟩ := HS.out.cells 10 rfl; obtain ⟨f_b2, z_b2⟩ := HS.out.cells 11 rfl))
    replace HS := Aside0.mk (HS.out.del 0)
    replace HS := Aside0.mk (HS.out.del 0)
    replace HS := Aside0.mk (HS.out.del 2)
    replace HS := Aside0.mk (HS.out.del 2)
    replace HS := Aside0.mk (HS.out.del 2)
    replace HS := Aside0.mk (HS.out.del 2)
    simp only [List.eraseIdx_cons_zero, List.eraseIdx_cons_succ, List.set_cons_zero, List.set_cons_succ] at HS
    (try clear f_b10 z_b10 f_b9 z_b9 f_b8 z_b8 f_b6 z_b6 f_b3 z_b3 f_b2 z_b2)
    go_cut [15, 16] (fun vp vk wc => ∃ (g_b15 : Nat) (V_rI : Option Addr) (q_rI : Nat) (P_rI P_rH P_rG : Nat → Prop), vp = .pointer (some ⟨g_b15, 0, none⟩) ∧ vk = .bool ok ∧ Aside0 (St w wc [batE g_b15 g.f0 g.f1 g.f2 g.f3 g.f4 (.slice V_rI g.f5.length q_rI), rowS k62 62 w.heap.size (.slice V_rI g.f5.length q_rI) g.f5 P_rI, batE g_b10 g.f0 g.f1 g.f2 g.f3 g.f4 (.slice V_rH g.f5.length q_rH), rowS k62 62 w.heap.size (.slice V_rH g.f5.length q_rH) (mkRow 1 g.f5) P_rH, batE g_b6 g.f0 g.f1 g.f2 g.f3 g.f4 (.slice V_rG g.f5.length q_rG), rowS k62 62 w.heap.size (.slice V_rG g.f5.length q_rG) g.f5 P_rG, batL g_b3 b.f0 b.f1 b.f2 b.f3 b.f4 (.slice B b.f5.length d), batL g_b2 a.f0 a.f1 a.f2 a.f3 a.f4 (.slice A a.f5.length c)]))
    case first =>
      go_region_held3 (fun w' => (∀ j, w'.cell? ⟨g_b2, j, none⟩ = #[.bool a.f0, .bool a.f1, .int .i64 a.f2, .int .i64 a.f3, .int .i64 a.f4, .slice A a.f5.length c][j]?) ∧ (∀ j, w'.cell? ⟨g_b3, j, none⟩ = #[.bool b.f0, .bool b.f1, .int .i64 b.f2, .int .i64 b.f3, .int .i64 b.f4, .slice B b.f5.length d][j]?)) (first | (have h_ := HS.out.drew.cells 5 rfl; have k_ := HS.out.drew.cells 4 rfl; with_reducible exact ⟨h_.1, k_.1⟩) | (have h_ := HS.out.drew.cells 6 rfl; have k_ := HS.out.drew.cells 5 rfl; with_reducible exact ⟨h_.1, k_.1⟩) | (have h_ := HS.out.drew.cells 7 rfl; have k_ := HS.out.drew.cells 6 rfl; with_reducible exact ⟨h_.1, k_.1⟩) | (have h_ := HS.out.drew.cells 8 rfl; have k_ := HS.out.drew.cells 7 rfl; with_reducible exact ⟨h_.1, k_.1⟩) | (have h_ := HS.out.drew.cells 9 rfl; have k_ := HS.out.drew.cells 8 rfl; with_reducible exact ⟨h_.1, k_.1⟩) | (have h_ := HS.out.cells 5 rfl; have k_ := HS.out.cells 4 rfl; with_reducible exact ⟨h_.1, k_.1⟩) | (have h_ := HS.out.cells 6 rfl; have k_ := HS.out.cells 5 rfl; with_reducible exact ⟨h_.1, k_.1⟩) | (have h_ := HS.out.cells 7 rfl; have k_ := HS.out.cells 6 rfl; with_reducible exact ⟨h_.1, k_.1⟩) | (have h_ := HS.out.cells 8 rfl; have k_ := HS.out.cells 7 rfl; with_reducible exact ⟨h_.1, k_.1⟩) | (have h_ := HS.out.cells 9 rfl; have k_ := HS.out.cells 8 rfl; with_reducible exact ⟨h_.1, k_.1⟩) | (have h_ := HS.out.alB.cells 5 rfl; have k_ := HS.out.alB.cells 4 rfl; with_reducible exact ⟨h_.1, k_.1⟩) | (have h_ := HS.out.alB.cells 6 rfl; have k_ := HS.out.alB.cells 5 rfl; with_reducible exact ⟨h_.1, k_.1⟩) | (have h_ := HS.out.alB.cells 7 rfl; have k_ := HS.out.alB.cells 6 rfl; with_reducible exact ⟨h_.1, k_.1⟩) | (have h_ := HS.out.alB.cells 8 rfl; have k_ := HS.out.alB.cells 7 rfl; with_reducible exact ⟨h_.1, k_.1⟩) | (have h_ := HS.out.alB.cells 9 rfl; have k_ := HS.out.alB.cells 8 rfl; with_reducible exact ⟨h_.1, k_.1⟩) | (have h_ := HS.out.alB.drew.cells 5 rfl; have k_ := HS.out.alB.drew.cells 4 rfl; with_reducible exact ⟨h_.1, k_.1⟩) | (have h_ := HS.out.alB.drew.cells 6 rfl; have k_ := HS.out.alB.drew.cells 5 rfl; with_reducible exact ⟨h_.1, k_.1⟩) | (have h_ := HS.out.alB.drew.cells 7 rfl; have k_ := HS.out.alB.drew.cells 6 rfl; with_reducible exact ⟨h_.1, k_.1⟩) | (have h_ := HS.out.alB.drew.cells 8 rfl; have k_ := HS.out.alB.drew.cells 7 rfl; with_reducible exact ⟨h_.1, k_.1⟩) | (have h_ := HS.out.alB.drew.cells 9 rfl; have k_ := HS.out.alB.drew.cells 8 rfl; with_reducible exact ⟨h_.1, k_.1⟩) | (have h_ := (HS.out.al (cs := #[.bool g.f0, .bool g.f1, .int .i64 g.f2, .int .i64 g.f3, .int .i64 g.f4, .slice V g.f5.length q]) (t := 28)).cells 9 rfl; have k_ := (HS.out.al (cs := #[.bool g.f0, .bool g.f1, .int .i64 g.f2, .int .i64 g.f3, .int .i64 g.f4, .slice V g.f5.length q]) (t := 28)).cells 8 rfl; with_reducible exact ⟨h_.1, k_.1⟩) | (have h_ := (HS.out.set6 1 rfl (.bool g.f0) (.bool g.f1) (.int .i64 g.f2) (.int .i64 g.f3) (.int .i64 g.f4) (.slice V g.f5.length q)).cells 9 rfl; have k_ := (HS.out.set6 1 rfl (.bool g.f0) (.bool g.f1) (.int .i64 g.f2) (.int .i64 g.f3) (.int .i64 g.f4) (.slice V g.f5.length q)).cells 8 rfl; with_reducible exact ⟨h_.1, k_.1⟩) | (have h_ := (HS.out.set6 2 rfl (.bool g.f0) (.bool g.f1) (.int .i64 g.f2) (.int .i64 g.f3) (.int .i64 g.f4) (.slice V g.f5.length q)).cells 9 rfl; have k_ := (HS.out.set6 2 rfl (.bool g.f0) (.bool g.f1) (.int .i64 g.f2) (.int .i64 g.f3) (.int .i64 g.f4) (.slice V g.f5.length q)).cells 8 rfl; with_reducible exact ⟨h_.1, k_.1⟩) | (have h_ := (HS.out.set6 3 rfl (.bool g.f0) (.bool g.f1) (.int .i64 g.f2) (.int .i64 g.f3) (.int .i64 g.f4) (.slice V g.f5.length q)).cells 9 rfl; have k_ := (HS.out.set6 3 rfl (.bool g.f0) (.bool g.f1) (.int .i64 g.f2) (.int .i64 g.f3) (.int .i64 g.f4) (.slice V g.f5.length q)).cells 8 rfl; with_reducible exact ⟨h_.1, k_.1⟩)) (first | (go_at_call 9; with_reducible refine (laws_toBatch.calls k a.f0 a.f1 a.f2 a.f3 a.f4 _ _ a.f5 _ _ _ _ _ _ _ (Kd.C_below HR0.out (by first | (have h_ := HS.out.below; with_reducible exact h_) | (have h_ := HS.out.drew.below; with_reducible exact h_) | exact HS.out.alB.below | exact HS.out.alB.drew.below)) HC.out.1 HF.out.c0).mono ?_; rintro e W2 ⟨v, rfl, hs, hb⟩; obtain ⟨V, q, rfl⟩ := Kd.S_slice hs; (first | (with_reducible replace HS := Aside0.mk (HS.out.pushS hs hb)) | (with_reducible replace HS := Aside0.mk (HS.out.drew.pushS hs hb)) | replace HS := Aside0.mk (HS.out.alB.pushS hs hb) | replace HS := Aside0.mk (HS.out.alB.drew.pushS hs hb)); clear hs hb; (first | (obtain ⟨q0, q1⟩ := HS.out.cells (cs := #[.bool false, .bool false, .int .i64 0, .int .i64 0, .int .i64 0, .slice none 0 0]) (t := 28) 1 rfl) | (obtain ⟨q0, q1⟩ := HS.out.cells (cs := #[.bool false, .bool false, .int .i64 0, .int .i64 0, .int .i64 0, .slice none 0 0]) (t := 28) 2 rfl) | (obtain ⟨q0, q1⟩ := HS.out.cells (cs := #[.bool false, .bool false, .int .i64 0, .int .i64 0, .int .i64 0, .slice none 0 0]) (t := 28) 3 rfl) | skip)) | (go_at_call 9; with_reducible refine (laws_toBatch.calls k b.f0 b.f1 b.f2 b.f3 b.f4 _ _ b.f5 _ _ _ _ _ _ _ (Kd.C_below HR1.out (by first | (have h_ := HS.out.below; with_reducible exact h_) | (have h_ := HS.out.drew.below; with_reducible exact h_) | exact HS.out.alB.below | exact HS.out.alB.drew.below)) HC.out.2 HF.out.c1).mono ?_; rintro e W2 ⟨v, rfl, hs, hb⟩; obtain ⟨V, q, rfl⟩ := Kd.S_slice hs; (first | (with_reducible replace HS := Aside0.mk (HS.out.pushS hs hb)) | (with_reducible replace HS := Aside0.mk (HS.out.drew.pushS hs hb)) | replace HS := Aside0.mk (HS.out.alB.pushS hs hb) | replace HS := Aside0.mk (HS.out.alB.drew.pushS hs hb)); clear hs hb; (first | (obtain ⟨q0, q1⟩ := HS.out.cells (cs := #[.bool false, .bool false, .int .i64 0, .int .i64 0, .int .i64 0, .slice none 0 0]) (t := 28) 1 rfl) | (obtain ⟨q0, q1⟩ := HS.out.cells (cs := #[.bool false, .bool false, .int .i64 0, .int .i64 0, .int .i64 0, .slice none 0 0]) (t := 28) 2 rfl) | (obtain ⟨q0, q1⟩ := HS.out.cells (cs := #[.bool false, .bool false, .int .i64 0, .int .i64 0, .int .i64 0, .slice none 0 0]) (t := 28) 3 rfl) | skip)) | (go_at_call 10; with_reducible refine (impl_BatchJoin.callsS k x0.f0 x0.f1 x0.f2 x0.f3 x0.f4 _ _ x0.f5 x1.f0 x1.f1 x1.f2 x1.f3 x1.f4 _ _ x1.f5 _ _ _ _ _ _ _ _ (ErrOk.below HE.out (by first | (have h_ := HS.out.below; with_reducible exact h_) | (have h_ := HS.out.drew.below; with_reducible exact h_) | exact HS.out.alB.below | exact HS.out.alB.drew.below)) ?c1 ?c2 ?c3 ?c4 HF.out.ij).mono ?_; (case c1 => first | (have h_ := HS.out.getC 0 rfl; with_reducible exact h_) | (have h_ := HS.out.getC 1 rfl; with_reducible exact h_) | (have h_ := HS.out.getC 2 rfl; with_reducible exact h_) | (have h_ := HS.out.alB.getC 0 rfl; with_reducible exact h_) | (have h_ := HS.out.alB.getC 1 rfl; with_reducible exact h_) | (have h_ := HS.out.alB.getC 2 rfl; with_reducible exact h_)); (case c2 => first | (have h_ := HS.out.getL 0 rfl; with_reducible exact h_) | (have h_ := HS.out.getL 1 rfl; with_reducible exact h_) | (have h_ := HS.out.getL 2 rfl; with_reducible exact h_) | (have h_ := HS.out.alB.getL 0 rfl; with_reducible exact h_) | (have h_ := HS.out.alB.getL 1 rfl; with_reducible exact h_) | (have h_ := HS.out.alB.getL 2 rfl; with_reducible exact h_)); (case c3 => first | (have h_ := HS.out.getC 0 rfl; with_reducible exact h_) | (have h_ := HS.out.getC 1 rfl; with_reducible exact h_) | (have h_ := HS.out.getC 2 rfl; with_reducible exact h_) | (have h_ := HS.out.alB.getC 0 rfl; with_reducible exact h_) | (have h_ := HS.out.alB.getC 1 rfl; with_reducible exact h_) | (have h_ := HS.out.alB.getC 2 rfl; with_reducible exact h_)); (case c4 => first | (have h_ := HS.out.getL 0 rfl; with_reducible exact h_) | (have h_ := HS.out.getL 1 rfl; with_reducible exact h_) | (have h_ := HS.out.getL 2 rfl; with_reducible exact h_) | (have h_ := HS.out.alB.getL 0 rfl; with_reducible exact h_) | (have h_ := HS.out.alB.getL 1 rfl; with_reducible exact h_) | (have h_ := HS.out.alB.getL 2 rfl; with_reducible exact h_)); rintro e W2 ⟨v, rfl, hs, hb⟩; obtain ⟨V, q, rfl⟩ := Kd.S_slice hs; (first | (with_reducible replace HS := Aside0.mk (HS.out.pushS hs hb)) | (with_reducible replace HS := Aside0.mk (HS.out.drew.pushS hs hb)) | replace HS := Aside0.mk (HS.out.alB.pushS hs hb) | replace HS := Aside0.mk (HS.out.alB.drew.pushS hs hb)); clear hs hb; (first | (obtain ⟨q0, q1⟩ := HS.out.cells (cs := #[.bool false, .bool false, .int .i64 0, .int .i64 0, .int .i64 0, .slice none 0 0]) (t := 28) 1 rfl) | (obtain ⟨q0, q1⟩ := HS.out.cells (cs := #[.bool false, .bool false, .int .i64 0, .int .i64 0, .int .i64 0, .slice none 0 0]) (t := 28) 2 rfl) | (obtain ⟨q0, q1⟩ := HS.out.cells (cs := #[.bool false, .bool false, .int .i64 0, .int .i64 0, .int .i64 0, .slice none 0 0]) (t := 28) 3 rfl) | skip)))
      all_goals
        go_step
        go_step
        go_meet
        case rel => first | (have h_ := ((HS.out.al (cs := #[.bool g.f0, .bool g.f1, .int .i64 g.f2, .int .i64 g.f3, .int .i64 g.f4, .slice V g.f5.length q]) (t := 28)).del 2).del 2; simp only [List.eraseIdx_cons_zero, List.eraseIdx_cons_succ, List.set_cons_zero, List.set_cons_succ] at h_; with_reducible exact ⟨_, _, _, _, _, _, rfl, rfl, ⟨h_⟩⟩) | (have h_ := (((HS.out.set6 1 rfl (.bool g.f0) (.bool g.f1) (.int .i64 g.f2) (.int .i64 g.f3) (.int .i64 g.f4) (.slice V g.f5.length q)).front 1 rfl).del 2).del 2; simp only [List.eraseIdx_cons_zero, List.eraseIdx_cons_succ, List.set_cons_zero, List.set_cons_succ] at h_; with_reducible exact ⟨_, _, _, _, _, _, rfl, rfl, ⟨h_⟩⟩) | (have h_ := (((HS.out.set6 2 rfl (.bool g.f0) (.bool g.f1) (.int .i64 g.f2) (.int .i64 g.f3) (.int .i64 g.f4) (.slice V g.f5.length q)).front 2 rfl).del 2).del 2; simp only [List.eraseIdx_cons_zero, List.eraseIdx_cons_succ, List.set_cons_zero, List.set_cons_succ] at h_; with_reducible exact ⟨_, _, _, _, _, _, rfl, rfl, ⟨h_⟩⟩) | (have h_ := (((HS.out.set6 3 rfl (.bool g.f0) (.bool g.f1) (.int .i64 g.f2) (.int .i64 g.f3) (.int .i64 g.f4) (.slice V g.f5.length q)).front 3 rfl).del 2).del 2; simp only [List.eraseIdx_cons_zero, List.eraseIdx_cons_succ, List.set_cons_zero, List.set_cons_succ] at h_; with_reducible exact ⟨_, _, _, _, _, _, rfl, rfl, ⟨h_⟩⟩)
    case rest =>
      obtain ⟨g_b15, V_rI, q_rI, P_rI, P_rH, P_rG, rfl, rfl, HS⟩ := hcut
      skip
      obtain ⟨f_b15, z_b15⟩ := HS.out.cells 0 rfl
      obtain ⟨f_b10, z_b10⟩ := HS.out.cells 2 rfl
      obtain ⟨f_b6, z_b6⟩ := HS.out.cells 4 rfl
      go_wp2_with (first
        | (go_at_call 11; with_reducible refine (laws_eqBatch.calls k g.f0 g.f1 g.f2 g.f3 g.f4 _ _ g.f5 g.f0 g.f1 g.f2 g.f3 g.f4 _ _ g.f5 true _ (HS.out.getC 1 rfl) (HS.out.getL 1 rfl) (HS.out.getC 5 rfl) (HS.out.getL 5 rfl) HF.out.eg).mono ?_; rintro e W ⟨rfl, hb⟩; replace HS := Aside0.mk (HS.out.call hb); clear hb; (try clear f_b15 z_b15 f_b10 z_b10 f_b6 z_b6); obtain ⟨f_b15, z_b15⟩ := HS.out.cells 0 rfl; obtain ⟨f_b10, z_b10⟩ := HS.out.cells 2 rfl; obtain ⟨f_b6, z_b6⟩ := HS.out.cells 4 rfl)
        | (go_at_call 13; with_reducible refine (laws_heldBatch.callsA k g.f0 g.f1 g.f2 g.f3 g.f4 _ g.f5 1 _ _ _ (HS.out.getS 3 rfl) HF.out.hg).mono ?_; rintro e W ⟨rfl, hb⟩; replace HS := Aside0.mk (HS.out.call hb); clear hb; (try clear f_b15 z_b15 f_b10 z_b10 f_b6 z_b6); obtain ⟨f_b15, z_b15⟩ := HS.out.cells 0 rfl; obtain ⟨f_b10, z_b10⟩ := HS.out.cells 2 rfl; obtain ⟨f_b6, z_b6⟩ := HS.out.cells 4 rfl))
      go_ret
      exact ⟨rfl, HS.out.below⟩
open Classical in
noncomputable def laws_FnExactBatchJoin.f (k : Nat) (a0 a1 : Bool) (a2 a3 a4 : Int) (l : List S71) (b0 b1 : Bool) (b2 b3 b4 : Int) (m : List S71) : Option Bool :=
  if (∃ t, laws_szBatch.f k a0 a1 a2 a3 a4 l 1048576 = some t ∧ t < 0) ∨ (∃ t u, laws_szBatch.f k a0 a1 a2 a3 a4 l 1048576 = some t ∧ 0 ≤ t ∧ laws_szBatch.f k b0 b1 b2 b3 b4 m t = some u ∧ u < 0) ∨ ∃ (t u : Int) (x0 x1 g : S28) (ok : Bool), FactsBJ k ⟨a0, a1, a2, a3, a4, l⟩ ⟨b0, b1, b2, b3, b4, m⟩ t u x0 x1 g ok then some true else none
set_option maxRecDepth 1000000 in
set_option maxHeartbeats 4000000 in
theorem laws_FnExactBatchJoin.calls [ErrA] (k : Nat) (a0 a1 : Bool) (a2 a3 a4 : Int) (A : Option Addr) (c : Nat) (l : List S71) (b0 b1 : Bool) (b2 b3 b4 : Int) (B : Option Addr) (d : Nat) (m : List S71) (r : Bool) (w : World) (hE : ErrOk [0] w) (hr0 : Kd.C k71 w A l.length l) (hc0 : l.length ≤ c) (hr1 : Kd.C k71 w B m.length m) (hc1 : m.length ≤ d) (h : laws_FnExactBatchJoin.f k a0 a1 a2 a3 a4 l b0 b1 b2 b3 b4 m = some r) :
    Calls Tryd.prog 3 #[BatV a0 a1 a2 a3 a4 (.slice A l.length c), BatV b0 b1 b2 b3 b4 (.slice B m.length d)] w fun e w' => e = .returned (.bool r) ∧ Below w.heap.size w w' := by
  unfold laws_FnExactBatchJoin.f at h
  split at h
  case isFalse => cases h
  case isTrue hx =>
    cases h
    have HS := Aside0.mk (St.nil w)
    rcases hx with ⟨t, s0, t0⟩ | ⟨t, u, s0, t0, s1, u0⟩ | ⟨t, u, x0, x1, g, ok, h⟩
    · have HR0 := Aside0.mk hr0
      have HF := Aside0.mk s0
      clear hr0 s0 hr1 hE
      go_enter Tryd.func3, Tryd.ntmps3
      go_wp2_with (first
        | ((with_reducible refine gate_dst (N := 2) rfl ?_); refine w_box HS rfl rfl (by go_simp; try rfl) ?_; intro g2 W h_; clear HS; have HS := h_; clear h_)
        | ((with_reducible refine gate_dst (N := 3) rfl ?_); refine w_box HS rfl rfl (by go_simp; try rfl) ?_; intro g3 W h_; clear HS; have HS := h_; clear h_; obtain ⟨f0, f1⟩ := HS.out.cells 1 rfl; obtain ⟨p0, p1⟩ := HS.out.cells 0 rfl)
        | (go_at_call 7; with_reducible refine (laws_szBatch.calls k a0 a1 a2 a3 a4 A c l 1048576 t _ (Kd.C_below HR0.out HS.out.below) hc0 HF.out).mono ?_; rintro e W ⟨rfl, hb⟩; replace HS := Aside0.mk (HS.out.call hb); clear hb f0 f1 p0 p1; obtain ⟨f0, f1⟩ := HS.out.cells 1 rfl; obtain ⟨p0, p1⟩ := HS.out.cells 0 rfl))
      go_ret
      exact ⟨rfl, HS.out.below⟩
    · have HR0 := Aside0.mk hr0
      have HR1 := Aside0.mk hr1
      have HF := Aside0.mk (And.intro s0 s1)
      clear hr0 hr1 s0 s1 hE
      go_enter Tryd.func3, Tryd.ntmps3
      go_wp2_with (first
        | ((with_reducible refine gate_dst (N := 2) rfl ?_); refine w_box HS rfl rfl (by go_simp; try rfl) ?_; intro g2 W h_; clear HS; have HS := h_; clear h_)
        | ((with_reducible refine gate_dst (N := 3) rfl ?_); refine w_box HS rfl rfl (by go_simp; try rfl) ?_; intro g3 W h_; clear HS; have HS := h_; clear h_; obtain ⟨f0, f1⟩ := HS.out.cells 1 rfl; obtain ⟨p0, p1⟩ := HS.out.cells 0 rfl)
        | (go_at_call 7; with_reducible refine (laws_szBatch.calls k a0 a1 a2 a3 a4 A c l 1048576 t _ (Kd.C_below HR0.out HS.out.below) hc0 HF.out.1).mono ?_; rintro e W ⟨rfl, hb⟩; replace HS := Aside0.mk (HS.out.call hb); clear hb f0 f1 p0 p1; obtain ⟨f0, f1⟩ := HS.out.cells 1 rfl; obtain ⟨p0, p1⟩ := HS.out.cells 0 rfl)
        | (go_at_call 7; with_reducible refine (laws_szBatch.calls k b0 b1 b2 b3 b4 B d m t u _ (Kd.C_below HR1.out HS.out.below) hc1 HF.out.2).mono ?_; rintro e W ⟨rfl, hb⟩; replace HS := Aside0.mk (HS.out.call hb); clear hb f0 f1 p0 p1; obtain ⟨f0, f1⟩ := HS.out.cells 1 rfl; obtain ⟨p0, p1⟩ := HS.out.cells 0 rfl))
      go_ret
      exact ⟨rfl, HS.out.below⟩
    · exact exBJ k ⟨a0, a1, a2, a3, a4, l⟩ A c ⟨b0, b1, b2, b3, b4, m⟩ B d t u x0 x1 g ok w hE hr0 hc0 hr1 hc1 h
end Go.Proofs.YtfjkpdhldeopaaaDoor.G

namespace Go.Proofs.YtfjkpdhldeopaaaDoor.Rd
open Go.RowKit Go.Proofs.YtfjkpdhldeopaaaDoorW.PrintWords
set_option linter.unusedVariables false
section
variable {H : Type} {enc : TypeId × Value → H} {P : Program} {w : World} {base : Nat} {spare : Nat → Bool} {held : Bool}
/-- What a reading of type t gives: a value of the kind, and what is known of it. -/
def Opens (enc : TypeId × Value → H) (P : Program) (w : World) (base : Nat) (spare : Nat → Bool) (held : Bool) {α : Type} (t : TypeId) (d : Kd α) (ok : α → Prop) : Prop :=
  P.cellsOf t = d.sz ∧ ∀ fuel cs x, DataW.trod enc P w base spare held fuel t cs = some x → ∃ v, d.K w v cs ∧ ok v
theorem Opens.imp_ {α : Type} {t : TypeId} {d : Kd α} {ok ok' : α → Prop} (h : Opens enc P w base spare held t d ok) (hi : ∀ v, ok v → ok' v) : Opens enc P w base spare held t d ok' :=
  ⟨h.1, fun fuel cs x hx => by
    obtain ⟨v, hk, ho⟩ := h.2 fuel cs x hx
    exact ⟨v, hk, hi v ho⟩⟩
theorem opens_int {t : TypeId} {k : IntKind} (ht : P.underlying t = some (.int k)) (hc : P.cellsOf t = 1) : Opens enc P w base spare held t (Kd.int k) (fun n => (Lit.int k n).wf = true) := by
  refine ⟨hc, fun fuel cs x h => ?_⟩
  obtain ⟨n, rfl, _, hw⟩ := DataW.trod_int ht h
  exact ⟨n, rfl, hw⟩
theorem opens_bool {t : TypeId} (ht : P.underlying t = some .bool) (hc : P.cellsOf t = 1) : Opens enc P w base spare held t Kd.bool (fun _ => True) := by
  refine ⟨hc, fun fuel cs x h => ?_⟩
  obtain ⟨n, rfl, _⟩ := DataW.trod_bool ht h
  exact ⟨n, rfl, trivial⟩
theorem cells_len {base : Nat} {a : Addr} {n : Nat} {cs : List Value} (h : w.cells? base a n = some cs) : cs.length = n ∧ ∀ i u, cs[i]? = some u → w.cell? (a.add i) = some u := by
  unfold World.cells? at h
  split at h
  · rename_i hb
    refine ⟨by simpa using mapM_some_length h, fun i u hu => ?_⟩
    have hi : i < n := by
      have := (List.getElem?_eq_some_iff.1 hu).1
      have h2 : cs.length = n := by simpa using mapM_some_length h
      omega
    have := mapM_some_get h i i (by simp [hi])
    rw [hu] at this
    exact this
  · simp at h
theorem opens_row {α : Type} {t e : TypeId} {d : Kd α} {ok : α → Prop} (ht : P.underlying t = some (.slice e)) (hd : Opens enc P w base spare held e d ok) {fuel : Nat} {cs : List Value} {x : DataW H × List MemPlace}
    (h : DataW.trod enc P w base spare held fuel t cs = some x) : ∃ (A : Option Addr) (c : Nat) (xs : List α), cs = [.slice A xs.length c] ∧ xs.length ≤ c ∧ c ≤ maxLen ∧ d.C w A xs.length xs ∧ ∀ y ∈ xs, ok y := by
  rcases Go.Deep.open_slice ht h with ⟨rfl, _⟩ | ⟨a, len, cap, m, n, D, Pl, rfl, hb, hl, hm, hmm, _, hel⟩
  · exact ⟨none, 0, [], rfl, Nat.le_refl _, by unfold maxLen; omega, ⟨rfl, by simp, fun h0 => absurd h0 (by simp)⟩, by simp⟩
  have hlm : len ≤ m := by rw [hmm]; split <;> omega
  have hx : ∀ i, i < len → ∃ y : α, ok y ∧ ∃ c, c.length = d.sz ∧ d.K w y c ∧ ∀ j u, c[j]? = some u → w.cell? (a.add (i * d.sz + j)) = some u := by
    intro i hi
    obtain ⟨cs', h1, h2⟩ := hel i (by omega)
    obtain ⟨y, hk, ho⟩ := hd.2 _ _ _ h2
    obtain ⟨hl', hc'⟩ := cells_len h1
    refine ⟨y, ho, cs', by rw [hl', hd.1], hk, fun j u hu => ?_⟩
    have := hc' j u hu
    rw [Go.Deep.add_add, hd.1] at this
    exact this
  rcases Nat.eq_zero_or_pos len with h0 | h0
  · subst h0
    exact ⟨some a, cap, [], rfl, Nat.zero_le _, hm, ⟨rfl, by simp, fun h1 => absurd h1 (by simp)⟩, by simp⟩
  obtain ⟨y0, _⟩ := hx 0 h0
  haveI : Inhabited α := ⟨y0⟩
  obtain ⟨g, hg⟩ := Go.Deep.choose_lt hx
  have hlen : ((List.range len).map g).length = len := by simp
  refine ⟨some a, cap, (List.range len).map g, by rw [hlen], by rw [hlen]; exact hl, hm, ⟨rfl, by rw [hlen]; unfold maxLen at hm; omega, fun _ => ⟨a, rfl, fun j p hj => ?_⟩⟩, fun y hy => ?_⟩
  · have hj' : j < len := by
      have := (List.getElem?_eq_some_iff.1 hj).1
      omega
    rw [List.getElem?_map, List.getElem?_range hj'] at hj
    simp at hj
    subst hj
    obtain ⟨_, c, hc1, hc2, hc3⟩ := hg j hj'
    exact ⟨c, hc1, hc2, hc3⟩
  · obtain ⟨i, hi, rfl⟩ := List.mem_map.1 hy
    exact (hg i (List.mem_range.1 hi)).1
theorem opens_slice {α : Type} {t e : TypeId} {d : Kd α} {ok : α → Prop} (ht : P.underlying t = some (.slice e)) (hc : P.cellsOf t = 1) (hd : Opens enc P w base spare held e d ok) :
    Opens enc P w base spare held t (Kd.slice e d) (fun xs => xs.length ≤ maxLen ∧ ∀ y ∈ xs, ok y) := by
  refine ⟨hc, fun fuel cs x h => ?_⟩
  obtain ⟨A, c, xs, rfl, hl, hm, hC, ho⟩ := opens_row ht hd h
  exact ⟨xs, ⟨A, c, rfl, hl, hC⟩, Nat.le_trans hl hm, ho⟩
/-- A struct's fields, one behind the other, from a place of its cells on. -/
def OpensAt (enc : TypeId × Value → H) (P : Program) (w : World) (base : Nat) (spare : Nat → Bool) (held : Bool) {α : Type} (fs : List Field) (off : Nat) (d : Kd α) (ok : α → Prop) : Prop :=
  ∀ n (cs : List Value), cs.length = off + d.sz → (∀ f ∈ fs, ∃ x, DataW.trod enc P w base spare held n f.type ((cs.drop f.offset).take (P.cellsOf f.type)) = some x) → ∃ v, d.K w v (cs.drop off) ∧ ok v
theorem opens_last {α : Type} {f : Field} {off : Nat} {d : Kd α} {ok : α → Prop} (ho : f.offset = off) (hd : Opens enc P w base spare held f.type d ok) : OpensAt enc P w base spare held [f] off d ok := by
  intro n cs hl h
  obtain ⟨x, hx⟩ := h f (by simp)
  obtain ⟨v, hk, hok⟩ := hd.2 _ _ _ hx
  rw [ho, hd.1, List.take_of_length_le (by rw [List.length_drop]; omega)] at hk
  exact ⟨v, hk, hok⟩
theorem opens_more {α β : Type} {f : Field} {fs : List Field} {off : Nat} {d : Kd α} {d' : Kd β} {ok : α → Prop} {ok' : β → Prop} (ho : f.offset = off) (hd : Opens enc P w base spare held f.type d ok) (hr : OpensAt enc P w base spare held fs (off + d.sz) d' ok') :
    OpensAt enc P w base spare held (f :: fs) off (Kd.pair d d') (fun v => ok v.1 ∧ ok' v.2) := by
  intro n cs hl h
  have hl' : cs.length = off + (d.sz + d'.sz) := hl
  obtain ⟨x, hx⟩ := h f (by simp)
  obtain ⟨v, hk, hok⟩ := hd.2 _ _ _ hx
  obtain ⟨v', hk', hok'⟩ := hr n cs (by omega) (fun g hg => h g (by simp [hg]))
  rw [ho, hd.1] at hk
  refine ⟨(v, v'), ⟨_, _, ?_, hk, hk'⟩, hok, hok'⟩
  rw [← List.drop_drop, List.take_append_drop]
theorem opens_struct {α β : Type} {t : TypeId} {fs : Array Field} {d : Kd α} {f : β → α} {g : α → β} {ok : α → Prop} (ht : P.underlying t = some (.struct fs)) (hc : P.cellsOf t = d.sz) (hfg : ∀ a, f (g a) = a) (h : OpensAt enc P w base spare held fs.toList 0 d ok) :
    Opens enc P w base spare held t (Kd.iso d f) (fun v => ok (f v)) := by
  refine ⟨hc, fun fuel cs x hx => ?_⟩
  obtain ⟨xs, n, _, _, hl, hxs, hf⟩ := DataW.trod_struct ht hx
  obtain ⟨v, hk, hok⟩ := h n cs (by rw [hl, hc]; omega) (fun fl hfl => by
    obtain ⟨i, hi, rfl⟩ := List.getElem_of_mem hfl
    have hi' : i < fs.size := by simpa using hi
    refine ⟨xs[i]'(by omega), ?_⟩
    have := hf i fs[i] (by simp [hi'])
    rw [List.getElem?_eq_getElem (by omega)] at this
    simpa using this)
  refine ⟨g v, ?_, by show ok (f (g v)); rw [hfg]; exact hok⟩
  show d.K w (f (g v)) cs
  rw [hfg]
  simpa using hk
end
end Go.Proofs.YtfjkpdhldeopaaaDoor.Rd

namespace Go.Proofs.YtfjkpdhldeopaaaDoor.OFnExactBatchJoin
open Go.RowKit Go.Proofs.YtfjkpdhldeopaaaDoorW.PrintWords Go.Proofs.YtfjkpdhldeopaaaDoor.G
set_option linter.unusedVariables false
def Ok71 (x : S71) : Prop := ((Lit.int .i64 x.f0).wf = true) ∧ ((Lit.int .i64 x.f1).wf = true) ∧ (True) ∧ (x.f3.length ≤ maxLen ∧ ∀ y ∈ x.f3, (Lit.int .i64 y).wf = true) ∧ (True) ∧ (x.f5.length ≤ maxLen ∧ ∀ y ∈ x.f5, (Lit.int .i64 y).wf = true)
theorem open71 {H : Type} {enc : TypeId × Value → H} {w : World} {base : Nat} {spare : Nat → Bool} {held : Bool} : Rd.Opens enc Tryd.prog w base spare held 71 k71 Ok71 :=
  Rd.Opens.imp_ (Rd.opens_struct (g := fun p => (⟨p.1, p.2.1, p.2.2.1, p.2.2.2.1, p.2.2.2.2.1, p.2.2.2.2.2⟩ : S71)) Tryd.underlying71 (by kernel_rfl) (fun _ => rfl) (Rd.opens_more rfl (Rd.opens_int Tryd.underlying3 (by kernel_rfl)) (Rd.opens_more rfl (Rd.opens_int Tryd.underlying3 (by kernel_rfl)) (Rd.opens_more rfl (Rd.opens_bool Tryd.underlying4 (by kernel_rfl)) (Rd.opens_more rfl (Rd.opens_slice Tryd.underlying60 (by kernel_rfl) (Rd.opens_int Tryd.underlying3 (by kernel_rfl))) (Rd.opens_more rfl (Rd.opens_bool Tryd.underlying4 (by kernel_rfl)) (Rd.opens_last rfl (Rd.opens_slice Tryd.underlying60 (by kernel_rfl) (Rd.opens_int Tryd.underlying3 (by kernel_rfl)))))))))) (fun _ h => h)
def Ok24 (x : S24) : Prop := (True) ∧ (True) ∧ ((Lit.int .i64 x.f2).wf = true) ∧ ((Lit.int .i64 x.f3).wf = true) ∧ ((Lit.int .i64 x.f4).wf = true) ∧ (x.f5.length ≤ maxLen ∧ ∀ y ∈ x.f5, Ok71 y)
theorem open24 {H : Type} {enc : TypeId × Value → H} {w : World} {base : Nat} {spare : Nat → Bool} {held : Bool} : Rd.Opens enc Tryd.prog w base spare held 24 k24 Ok24 :=
  Rd.Opens.imp_ (Rd.opens_struct (g := fun p => (⟨p.1, p.2.1, p.2.2.1, p.2.2.2.1, p.2.2.2.2.1, p.2.2.2.2.2⟩ : S24)) Tryd.underlying24 (by kernel_rfl) (fun _ => rfl) (Rd.opens_more rfl (Rd.opens_bool Tryd.underlying4 (by kernel_rfl)) (Rd.opens_more rfl (Rd.opens_bool Tryd.underlying4 (by kernel_rfl)) (Rd.opens_more rfl (Rd.opens_int Tryd.underlying3 (by kernel_rfl)) (Rd.opens_more rfl (Rd.opens_int Tryd.underlying3 (by kernel_rfl)) (Rd.opens_more rfl (Rd.opens_int Tryd.underlying3 (by kernel_rfl)) (Rd.opens_last rfl (Rd.opens_slice Tryd.underlying22 (by kernel_rfl) open71)))))))) (fun _ h => h)
def Pure : Prop := ∀ (x0 : S24) (x1 : S24), Ok24 x0 → Ok24 x1 → ∃ k, laws_FnExactBatchJoin.f k (x0.f0) (x0.f1) (x0.f2) (x0.f3) (x0.f4) (x0.f5) (x1.f0) (x1.f1) (x1.f2) (x1.f3) (x1.f4) (x1.f5) = some true
end Go.Proofs.YtfjkpdhldeopaaaDoor.OFnExactBatchJoin

namespace Go.Proofs.YtfjkpdhldeopaaaDoor.Pu
open Go.RowKit Go.Proofs.YtfjkpdhldeopaaaDoorW.PrintWords Go.Proofs.YtfjkpdhldeopaaaDoorW.PrintLast Go.Proofs.YtfjkpdhldeopaaaDoor.G
set_option linter.unusedVariables false
set_option linter.unusedSimpArgs false
def cvR (r : S71) : S62 := ⟨r.f0, r.f1, r.f2, r.f3, r.f4, r.f5⟩
theorem rdLR_nat (l : List S71) (i : Nat) (h : i < l.length) : rd_T71 l (i : Int) = l[i] := by
  unfold rd_T71
  simp [h]
theorem szIntS_some (l : List Int) (a : Int) (hl : l.length ≤ 9223372036854775807) (h0 : 0 ≤ a) (h1 : a ≤ 1048576) :
    laws_szIntS.f l a = some (if a - (l.length : Int) < 0 then -1 else a - (l.length : Int)) := by
  unfold laws_szIntS.f
  rw [w64 (a := a - (l.length : Int)) (by omega) (by omega)]
  split <;> rfl
/-- What a row of sizes tells: it is too much, or something is left and all is small. -/
def SzR (r : S71) : Prop := r.f3.length ≤ 1048576 ∧ r.f5.length ≤ 1048576
theorem szRecord_some (r : S71) (a : Int) (hl : r.f3.length ≤ 9223372036854775807 ∧ r.f5.length ≤ 9223372036854775807) (h0 : 0 ≤ a) (h1 : a ≤ 1048576) :
    ∃ t, laws_szRecord.f r.f0 r.f1 r.f2 r.f3 r.f4 r.f5 a = some t ∧ (t < 0 ∨ (0 ≤ t ∧ t ≤ a ∧ SzR r)) := by
  unfold laws_szRecord.f
  rw [szIntS_some _ _ hl.1 h0 h1, bindS]
  by_cases h : a - (r.f3.length : Int) < 0
  · rw [if_pos h, if_pos (by omega)]
    exact ⟨_, rfl, .inl (by omega)⟩
  · rw [if_neg h, if_neg h, szIntS_some _ _ hl.2 (by omega) (by omega), bindS]
    by_cases h2 : a - (r.f3.length : Int) - (r.f5.length : Int) < 0
    · rw [if_pos h2, if_pos (by omega)]
      exact ⟨_, rfl, .inl (by omega)⟩
    · rw [if_neg h2, if_neg h2]
      exact ⟨_, rfl, .inr ⟨by omega, by omega, by omega, by omega⟩⟩
theorem szRecordS_loop (l : List S71) (hl : l.length ≤ 9223372036854775807) (hs : ∀ r ∈ l, r.f3.length ≤ 9223372036854775807 ∧ r.f5.length ≤ 9223372036854775807) : ∀ d i (a : Int), l.length - i = d → 0 ≤ a → a ≤ 1048576 →
    EndsIn (fun k => laws_szRecordS.l0 k l a (i : Int)) (fun t => t < 0 ∨ (0 ≤ t ∧ t ≤ a ∧ ∀ r ∈ l.drop i, SzR r)) := by
  intro d
  induction d with
  | zero =>
    intro i a hi h0 h1
    refine EndsIn.step (fun k => by rw [laws_szRecordS.l0]) ?_
    simp only [if_neg (show ¬ ((i : Int) < (l.length : Int)) by omega)]
    refine EndsIn.now _ (.inr ⟨h0, by omega, ?_⟩)
    rw [List.drop_of_length_le (by omega)]
    simp
  | succ d ih =>
    intro i a hi h0 h1
    have hlt : i < l.length := by omega
    refine EndsIn.step (fun k => by rw [laws_szRecordS.l0]) ?_
    obtain ⟨t, ht, hc⟩ := szRecord_some l[i] a (hs _ (List.getElem_mem hlt)) h0 h1
    simp only [if_pos (show ((i : Int) < (l.length : Int)) by omega), if_pos (show (0 : Int) ≤ (i : Int) by omega), rdLR_nat l i hlt, ht, bindS, w64 (a := (i : Int) + 1) (by omega) (by omega)]
    rcases hc with h | ⟨h2, h3, h4⟩
    · simp only [if_pos h]
      exact EndsIn.now _ (.inl (by omega))
    · simp only [if_neg (show ¬ t < 0 by omega)]
      refine (ih (i + 1) t (by omega) h2 (by omega)).mono fun q hq => ?_
      rcases hq with hq | ⟨q0, q1, q2⟩
      · exact .inl hq
      · refine .inr ⟨q0, by omega, ?_⟩
        rw [List.drop_eq_getElem_cons hlt]
        intro g hg
        rcases List.mem_cons.1 hg with rfl | hg
        · exact h4
        · exact q2 g hg
theorem szRecordS_ends (l : List S71) (hl : l.length ≤ 9223372036854775807) (hs : ∀ r ∈ l, r.f3.length ≤ 9223372036854775807 ∧ r.f5.length ≤ 9223372036854775807) (a : Int) (h0 : 0 ≤ a) (h1 : a ≤ 1048576) :
    EndsIn (fun k => laws_szRecordS.f k l a) (fun t => t < 0 ∨ (0 ≤ t ∧ t ≤ a ∧ l.length ≤ 1048576 ∧ ∀ r ∈ l, SzR r)) := by
  unfold laws_szRecordS.f
  rw [w64 (a := a - (l.length : Int)) (by omega) (by omega)]
  by_cases h : a - (l.length : Int) < 0
  · simp only [if_pos h]
    exact EndsIn.now _ (.inl (by omega))
  · simp only [if_neg h]
    refine (szRecordS_loop l hl hs l.length 0 _ (by omega) (by omega) (by omega)).mono fun r hr => ?_
    rcases hr with hr | ⟨q0, q1, q2⟩
    · exact .inl hr
    · exact .inr ⟨q0, by omega, by omega, by simpa using q2⟩
theorem toIntS_loop (l : List Int) (hl : l.length ≤ 1048576) : ∀ d i, l.length - i = d → i ≤ l.length →
    Ev (fun k => laws_toIntS.l0 k l ((l.take i).map (fun x => x) ++ List.replicate (l.length - i) 0) (i : Int)) l := by
  intro d
  induction d with
  | zero =>
    intro i hi hle
    obtain rfl : i = l.length := by omega
    refine Ev.step (fun k => by rw [laws_toIntS.l0]) ?_
    simp only [if_neg (show ¬ ((l.length : Int) < (l.length : Int)) by omega), List.take_length, Nat.sub_self, List.replicate_zero, List.append_nil, List.map_id']
    exact Ev.now _
  | succ d ih =>
    intro i hi hle
    have hlt : i < l.length := by omega
    refine Ev.step (fun k => by rw [laws_toIntS.l0]) ?_
    simp only [if_pos (show ((i : Int) < (l.length : Int)) by omega), if_pos (show (0 : Int) ≤ (i : Int) by omega), rdi_nat l i hlt, fill_len (fun x : Int => x) 0 l i hle, w64 (a := (i : Int) + 1) (by omega) (by omega), Int.toNat_natCast]
    have := ih (i + 1) (by omega) (by omega)
    rw [← fill_set (fun x : Int => x) 0 l i hlt] at this
    exact this
theorem toIntS_ev (l : List Int) (hl : l.length ≤ 1048576) : Ev (fun k => laws_toIntS.f k l) l := by
  unfold laws_toIntS.f
  simp only [if_pos (show (0 : Int) ≤ (l.length : Int) by omega), Int.toNat_natCast, if_pos (show l.length ≤ 35184372088832 by omega)]
  have := toIntS_loop l hl l.length 0 (by omega) (by omega)
  simpa using this
theorem toRecord_ev (r : S71) (h : SzR r) : Ev (fun k => laws_toRecord.f k r.f0 r.f1 r.f2 r.f3 r.f4 r.f5) (r.f0, r.f1, r.f2, r.f3, r.f4, r.f5) := by
  unfold laws_toRecord.f
  exact Ev.bind (toIntS_ev _ h.1) (Ev.bind (toIntS_ev _ h.2) (Ev.now _))
theorem toRecordS_loop (l : List S71) (hl : l.length ≤ 1048576) (hs : ∀ r ∈ l, SzR r) : ∀ d i, l.length - i = d → i ≤ l.length →
    Ev (fun k => laws_toRecordS.l0 k l ((l.take i).map cvR ++ List.replicate (l.length - i) z62) (i : Int)) (l.map cvR) := by
  intro d
  induction d with
  | zero =>
    intro i hi hle
    obtain rfl : i = l.length := by omega
    refine Ev.step (fun k => by rw [laws_toRecordS.l0]) ?_
    simp only [if_neg (show ¬ ((l.length : Int) < (l.length : Int)) by omega), List.take_length, Nat.sub_self, List.replicate_zero, List.append_nil]
    exact Ev.now _
  | succ d ih =>
    intro i hi hle
    have hlt : i < l.length := by omega
    refine Ev.step (fun k => by rw [laws_toRecordS.l0]) ?_
    simp only [if_pos (show ((i : Int) < (l.length : Int)) by omega), if_pos (show (0 : Int) ≤ (i : Int) by omega), rdLR_nat l i hlt, fill_len cvR z62 l i hle, w64 (a := (i : Int) + 1) (by omega) (by omega), Int.toNat_natCast]
    refine Ev.bind (toRecord_ev l[i] (hs _ (List.getElem_mem _))) ?_
    have := ih (i + 1) (by omega) (by omega)
    rw [← fill_set cvR z62 l i hlt] at this
    exact this
theorem toRecordS_ev (l : List S71) (hl : l.length ≤ 1048576) (hs : ∀ r ∈ l, SzR r) : Ev (fun k => laws_toRecordS.f k l) (l.map cvR) := by
  unfold laws_toRecordS.f
  simp only [if_pos (show (0 : Int) ≤ (l.length : Int) by omega), Int.toNat_natCast, if_pos (show l.length ≤ 3518437208883 by omega)]
  have := toRecordS_loop l hl hs l.length 0 (by omega) (by omega)
  simpa using this
theorem all_true {α} (l : List α) : l.all (fun _ => true) = true := List.all_eq_true.2 (fun _ _ => rfl)
theorem eqIntS_ev (l : List Int) (hl : l.length ≤ 9223372036854775807) : Ev (fun k => laws_eqIntS.f k l l) true := by
  unfold laws_eqIntS.f
  simp only [if_true]
  have := ev_all l hl (fun k i => laws_eqIntS.l0 k l l i) (fun k i => some true) (fun _ => true) true
    (fun k => by simp only [laws_eqIntS.l0]; rw [if_neg (by omega)])
    (fun k i h => by simp only [laws_eqIntS.l0]; rw [if_pos (by omega), if_pos (by omega), if_pos (by omega), if_true]; rfl)
    (fun i h => Ev.now _) l.length 0 (by omega) (by omega)
  rw [all_true] at this
  simpa using this
theorem eqRecord_ev (r : S62) (h : Lens r) : Ev (fun k => laws_eqRecord.f k r.f0 r.f1 r.f2 r.f3 r.f4 r.f5 r.f0 r.f1 r.f2 r.f3 r.f4 r.f5) true := by
  unfold laws_eqRecord.f
  simp only [if_true, bne_self_eq_false, Bool.false_eq_true, if_false]
  refine Ev.bind (eqIntS_ev _ h.1) ?_
  simp only [if_true]
  exact Ev.bind (eqIntS_ev _ h.2) (Ev.now _)
theorem eqRecordS_ev (l : List S62) (hl : l.length ≤ 9223372036854775807) (hs : ∀ r ∈ l, Lens r) : Ev (fun k => laws_eqRecordS.f k l l) true := by
  unfold laws_eqRecordS.f
  simp only [if_true]
  have := ev_all l hl (fun k i => laws_eqRecordS.l0 k l l i) (fun k i => laws_eqRecord.f k (rd_T62 l i).f0 (rd_T62 l i).f1 (rd_T62 l i).f2 (rd_T62 l i).f3 (rd_T62 l i).f4 (rd_T62 l i).f5 (rd_T62 l i).f0 (rd_T62 l i).f1 (rd_T62 l i).f2 (rd_T62 l i).f3 (rd_T62 l i).f4 (rd_T62 l i).f5) (fun _ => true) true
    (fun k => by simp only [laws_eqRecordS.l0]; rw [if_neg (by omega)])
    (fun k i h => by simp only [laws_eqRecordS.l0]; rw [if_pos (by omega), if_pos (by omega), if_pos (by omega)])
    (fun i h => by rw [rdR_nat l i h]; exact eqRecord_ev _ (hs _ (List.getElem_mem _))) l.length 0 (by omega) (by omega)
  rw [all_true] at this
  simpa using this
theorem lens_cv {l : List S71} (hs : ∀ r ∈ l, SzR r) : ∀ r ∈ l.map cvR, Lens r := by
  intro r hr
  obtain ⟨x, hx, rfl⟩ := List.mem_map.1 hr
  have := hs x hx
  exact ⟨by have := this.1; show x.f3.length ≤ _; omega, by have := this.2; show x.f5.length ≤ _; omega⟩
end Go.Proofs.YtfjkpdhldeopaaaDoor.Pu

namespace Go.Proofs.YtfjkpdhldeopaaaDoor.Pu
open Go.RowKit Go.Proofs.YtfjkpdhldeopaaaDoorW.PrintWords Go.Proofs.YtfjkpdhldeopaaaDoorW.PrintLast Go.Proofs.YtfjkpdhldeopaaaDoor.G
set_option linter.unusedVariables false
set_option linter.unusedSimpArgs false
def cvB (b : S24) : S28 := ⟨b.f0, b.f1, b.f2, b.f3, b.f4, b.f5.map cvR⟩
def SzB (b : S24) : Prop := b.f5.length ≤ 1048576 ∧ ∀ r ∈ b.f5, SzR r
/-- Parts whose lengths can be told. -/
def LenB (b : S24) : Prop := b.f5.length ≤ 9223372036854775807 ∧ ∀ r ∈ b.f5, r.f3.length ≤ 9223372036854775807 ∧ r.f5.length ≤ 9223372036854775807
theorem szBatch_ends (b : S24) (hs : LenB b) (a : Int) (h0 : 0 ≤ a) (h1 : a ≤ 1048576) :
    EndsIn (fun k => laws_szBatch.f k b.f0 b.f1 b.f2 b.f3 b.f4 b.f5 a) (fun t => t < 0 ∨ (0 ≤ t ∧ t ≤ a ∧ SzB b)) := by
  unfold laws_szBatch.f
  refine EndsIn.bind (szRecordS_ends b.f5 hs.1 hs.2 a h0 h1) fun t ht => ?_
  by_cases h : t < 0
  · simp only [if_pos h]
    exact EndsIn.now _ (.inl (by omega))
  · simp only [if_neg h]
    obtain ⟨t0, t1, n, z⟩ := ht.resolve_left h
    exact EndsIn.now _ (.inr ⟨t0, t1, n, z⟩)
theorem toBatch_ev (b : S24) (h : SzB b) : Ev (fun k => laws_toBatch.f k b.f0 b.f1 b.f2 b.f3 b.f4 b.f5) (b.f0, b.f1, b.f2, b.f3, b.f4, b.f5.map cvR) := by
  unfold laws_toBatch.f
  exact Ev.bind (toRecordS_ev _ h.1 h.2) (Ev.now _)
theorem eqBatch_ev (b : S28) (h : RowR b.f5) : Ev (fun k => laws_eqBatch.f k b.f0 b.f1 b.f2 b.f3 b.f4 b.f5 b.f0 b.f1 b.f2 b.f3 b.f4 b.f5) true := by
  unfold laws_eqBatch.f
  simp only [if_true, bne_self_eq_false, Bool.false_eq_true, if_false]
  refine Ev.bind (eqRecordS_ev _ h.1 h.2) ?_
  simp only [if_true]
  exact Ev.now _
end Go.Proofs.YtfjkpdhldeopaaaDoor.Pu

namespace Go.Proofs.YtfjkpdhldeopaaaDoor.Pu
open Go.RowKit Go.Proofs.YtfjkpdhldeopaaaDoorW.PrintWords Go.Proofs.YtfjkpdhldeopaaaDoorW.PrintLast Go.Proofs.YtfjkpdhldeopaaaDoorW.PrintMore Go.Proofs.YtfjkpdhldeopaaaDoor.G
set_option linter.unusedVariables false
set_option linter.unusedSimpArgs false
abbrev RT := S62
abbrev BT := S28
theorem copyOf_ev (x : RT) (h : x.f3.length ≤ 12 ∧ x.f5.length ≤ 12) : impl_Record_copyOf.f x.f0 x.f1 x.f2 x.f3 x.f4 x.f5 = some (x.f0, x.f1, x.f2, x.f3, x.f4, x.f5) := by
  simp only [impl_Record_copyOf.f, slices_Clone_int_int.f]
  rw [if_pos (by omega), if_pos (by omega)]
  rfl
end Go.Proofs.YtfjkpdhldeopaaaDoor.Pu

namespace Go.Proofs.YtfjkpdhldeopaaaDoor.Pu
open Go.RowKit Go.Proofs.YtfjkpdhldeopaaaDoorW.PrintWords Go.Proofs.YtfjkpdhldeopaaaDoorW.PrintLast Go.Proofs.YtfjkpdhldeopaaaDoorW.PrintMore Go.Proofs.YtfjkpdhldeopaaaDoor.G
set_option linter.unusedVariables false
set_option linter.unusedSimpArgs false
def ShortR (l : List RT) : Prop := l.length ≤ 6 ∧ ∀ r ∈ l, r.f3.length ≤ 12 ∧ r.f5.length ≤ 12
theorem short_of {b : BT} (h : batOk b = true) : ShortR b.f5 := ⟨(batOk_len h).2, fun r hr => by
  obtain ⟨i, hi, rfl⟩ := List.getElem_of_mem hr
  exact recOk_len (batOk_rec h i hi)⟩
theorem copyRecords_loop (l : List RT) (h : ShortR l) : ∀ d i, l.length - i = d → i ≤ l.length → Ev (fun k => impl_copyRecords.l0 k (l.take i) l (l.length : Int) (i : Int)) l := by
  intro d
  induction d with
  | zero =>
    intro i hd hi
    refine Ev.step (fun k => by rw [impl_copyRecords.l0]) ?_
    simp only [if_neg (show ¬ (i : Int) < (l.length : Int) by omega), List.take_of_length_le (show l.length ≤ i by omega)]
    exact Ev.now _
  | succ d ih =>
    intro i hd hi
    have hlt : i < l.length := by omega
    have hl := h.1
    refine Ev.step (fun k => by rw [impl_copyRecords.l0]) ?_
    simp only [if_pos (show (i : Int) < (l.length : Int) by omega), if_pos (show (0 : Int) ≤ (i : Int) by omega), rdR_nat l i hlt, copyOf_ev _ (h.2 _ (List.getElem_mem hlt)), bindS, w64 (a := (i : Int) + 1) (by omega) (by omega), if_pos (show (l.take i).length < 1759218604441 by rw [List.length_take]; omega)]
    have := ih (i + 1) (by omega) (by omega)
    rw [← List.take_append_getElem hlt] at this
    exact this
theorem copyRecords_ev (l : List RT) (h : ShortR l) : Ev (fun k => impl_copyRecords.f k l) l := by
  unfold impl_copyRecords.f
  have hl := h.1
  simp only [if_pos (show (0 : Int) ≤ (l.length : Int) by omega), if_pos (show ((l.length : Int)).toNat ≤ 3518437208883 by rw [Int.toNat_natCast]; omega)]
  have := copyRecords_loop l h _ 0 rfl (by omega)
  simpa using this
theorem copyBatch_ev (b : BT) (h : ShortR b.f5) : Ev (fun k => impl_Batch_copyOf.f k b.f0 b.f1 b.f2 b.f3 b.f4 b.f5) (b.f0, b.f1, b.f2, b.f3, b.f4, b.f5) := by
  unfold impl_Batch_copyOf.f
  exact Ev.bind (copyRecords_ev _ h) (Ev.now _)
theorem l12Copy_ev (x : RT) (h : x.f3.length ≤ 12 ∧ x.f5.length ≤ 12) : spec_l12Copy.f x.f0 x.f1 x.f2 x.f3 x.f4 x.f5 = some (x.f0, x.f1, x.f2, x.f3, x.f4, x.f5) := by
  unfold spec_l12Copy.f
  simp only [bindS, List.length_nil, List.nil_append]
  rw [if_pos (by omega), if_pos (by omega)]
theorem free_loop (p : Bool) (l : List RT) (h : l.length ≤ 12 ∧ ∀ r ∈ l, r.f3.length ≤ 12 ∧ r.f5.length ≤ 12) : ∀ d i, l.length - i = d → i ≤ l.length → Ev (fun k => spec_l31Free.l0 k l (i : Int) p false 255 0 0 (l.take i)) (p, false, 255, 0, 0, l) := by
  intro d
  induction d with
  | zero =>
    intro i hd hi
    refine Ev.step (fun k => by rw [spec_l31Free.l0]) ?_
    simp only [if_neg (show ¬ (i : Int) < (l.length : Int) by omega), List.take_of_length_le (show l.length ≤ i by omega)]
    exact Ev.now _
  | succ d ih =>
    intro i hd hi
    have hlt : i < l.length := by omega
    have hl := h.1
    refine Ev.step (fun k => by rw [spec_l31Free.l0]) ?_
    simp only [if_pos (show (i : Int) < (l.length : Int) by omega), if_pos (show (0 : Int) ≤ (i : Int) by omega), rdR_nat l i hlt, l12Copy_ev _ (h.2 _ (List.getElem_mem hlt)), bindS, w64 (a := (i : Int) + 1) (by omega) (by omega), if_pos (show (l.take i).length < 1759218604441 by rw [List.length_take]; omega)]
    have := ih (i + 1) (by omega) (by omega)
    rw [← List.take_append_getElem hlt] at this
    exact this
theorem free_ev12 (p : Bool) (l : List RT) (h : l.length ≤ 12 ∧ ∀ r ∈ l, r.f3.length ≤ 12 ∧ r.f5.length ≤ 12) : Ev (fun k => spec_l31Free.f k p l) (p, false, 255, 0, 0, l) := by
  unfold spec_l31Free.f
  have := free_loop p l h _ 0 rfl (by omega)
  simpa using this
theorem ShortR.take {l : List RT} (h : ShortR l) (n : Nat) : ShortR (l.take n) := ⟨by rw [List.length_take]; have := h.1; omega, fun r hr => h.2 r (List.mem_of_mem_take hr)⟩
theorem ShortR.drop {l : List RT} (h : ShortR l) (n : Nat) : ShortR (l.drop n) := ⟨by rw [List.length_drop]; have := h.1; omega, fun r hr => h.2 r (List.mem_of_mem_drop hr)⟩
end Go.Proofs.YtfjkpdhldeopaaaDoor.Pu

namespace Go.Proofs.YtfjkpdhldeopaaaDoor.Pu
open Go.RowKit Go.Proofs.YtfjkpdhldeopaaaDoorW.PrintWords Go.Proofs.YtfjkpdhldeopaaaDoorW.PrintLast Go.Proofs.YtfjkpdhldeopaaaDoorW.PrintMore Go.Proofs.YtfjkpdhldeopaaaDoor.G
set_option linter.unusedVariables false
set_option linter.unusedSimpArgs false
abbrev JoinT := Bool × Bool × Int × Int × Int × List RT × Option Int
/-- Whether two batches can be joined. -/
def joinGood (a b : BT) : Bool := batOk a && (batOk b && (decide (a.f2 = 255) && (decide (b.f2 = 255) && (decide (a.f0 = b.f0) && batOk ⟨a.f0, a.f1, a.f2, a.f3, a.f4, a.f5 ++ b.f5⟩))))
def joinV (a b : BT) : JoinT := if joinGood a b = true then (a.f0, a.f1, a.f2, a.f3, a.f4, a.f5 ++ b.f5, none) else (false, false, 0, 0, 0, [], some 1)
theorem join_j (a b : BT) (x : Bool) (ha : batOk a = true) (hb : batOk b = true) : Ev (fun k => impl_Batch_join.j0 k x a.f0 a.f1 a.f2 a.f3 a.f4 a.f5 b.f0 b.f1 b.f2 b.f3 b.f4 b.f5) (if x = true ∨ ¬ batOk ⟨a.f0, a.f1, a.f2, a.f3, a.f4, a.f5 ++ b.f5⟩ = true then (false, false, 0, 0, 0, [], some 1) else (a.f0, a.f1, a.f2, a.f3, a.f4, a.f5 ++ b.f5, none)) := by
  refine Ev.step (fun k => by rw [impl_Batch_join.j0]) ?_
  cases x
  · simp only [Bool.false_eq_true, if_false, false_or]
    have h1 := short_of ha
    have h2 := short_of hb
    refine Ev.bind (copyBatch_ev a h1) ?_
    refine Ev.bind (copyRecords_ev b.f5 h2) ?_
    have := h1.1
    have := h2.1
    simp only [if_pos (show a.f5.length + b.f5.length < 1759218604441 by omega), bindS, impl_BatchValid.f]
    by_cases hv : batOk ⟨a.f0, a.f1, a.f2, a.f3, a.f4, a.f5 ++ b.f5⟩ = true
    · rw [if_neg (show ¬ ¬ batOk ⟨a.f0, a.f1, a.f2, a.f3, a.f4, a.f5 ++ b.f5⟩ = true from fun h => h hv)]
      simp only [hv, if_true]
      exact Ev.now _
    · rw [if_pos hv]
      simp only [if_neg hv]
      exact Ev.now _
  · simp only [if_true, true_or]
    exact Ev.now _
theorem join_ev (a b : BT) : Ev (fun k => impl_Batch_join.f k a.f0 a.f1 a.f2 a.f3 a.f4 a.f5 b.f0 b.f1 b.f2 b.f3 b.f4 b.f5) (joinV a b) := by
  have bad : ∀ k, impl_Batch_join.j0 (k + 1) true a.f0 a.f1 a.f2 a.f3 a.f4 a.f5 b.f0 b.f1 b.f2 b.f3 b.f4 b.f5 = some (false, false, 0, 0, 0, [], some 1) := fun k => by rw [impl_Batch_join.j0]; simp
  have badE : Ev (fun k => impl_Batch_join.j0 k true a.f0 a.f1 a.f2 a.f3 a.f4 a.f5 b.f0 b.f1 b.f2 b.f3 b.f4 b.f5) (false, false, 0, 0, 0, [], some 1) := Ev.step bad (Ev.now _)
  unfold impl_Batch_join.f joinV joinGood
  simp only [impl_BatchValid.f, bindS]
  cases ha : batOk a
  · simpa using badE
  · cases hb : batOk b
    · simpa using badE
    · simp only [if_true, Bool.true_and]
      by_cases h2 : a.f2 = 255
      · by_cases h3 : b.f2 = 255
        · simp only [if_pos h2, if_pos h3, decide_eq_true h2, decide_eq_true h3, Bool.true_and]
          have := join_j a b (a.f0 != b.f0) ha hb
          by_cases h4 : a.f0 = b.f0
          · have e : (a.f0 != b.f0) = false := by simp [h4]
            rw [e] at this ⊢
            simp only [Bool.false_eq_true, false_or] at this
            rw [decide_eq_true h4, Bool.true_and]
            by_cases hv : batOk ⟨a.f0, a.f1, a.f2, a.f3, a.f4, a.f5 ++ b.f5⟩ = true
            · rw [if_neg (by simp [hv])] at this
              rw [if_pos hv]
              exact this
            · rw [if_pos hv] at this
              rw [if_neg hv]
              exact this
          · have e : (a.f0 != b.f0) = true := by simp [h4]
            rw [e, decide_eq_false h4, Bool.false_and, if_neg (by simp)]
            exact badE
        · simp only [if_pos h2, if_neg h3, decide_eq_false h3, Bool.false_and, Bool.and_false, Bool.false_eq_true, if_false]
          exact badE
      · simp only [if_neg h2, decide_eq_false h2, Bool.false_and, Bool.and_false, Bool.false_eq_true, if_false]
        exact badE
abbrev BJoinT := Bool × Bool × Int × Int × Int × List RT × Bool
def bjoinV (a b : BT) : BJoinT := if joinGood a b = true then (a.f0, a.f1, a.f2, a.f3, a.f4, a.f5 ++ b.f5, true) else (false, false, 0, 0, 0, [], false)
theorem BatchJoin_ev (a b : BT) : Ev (fun k => impl_BatchJoin.f k a.f0 a.f1 a.f2 a.f3 a.f4 a.f5 b.f0 b.f1 b.f2 b.f3 b.f4 b.f5) (bjoinV a b) := by
  unfold impl_BatchJoin.f
  refine Ev.bind (join_ev a b) ?_
  unfold bjoinV joinV
  by_cases h : joinGood a b = true
  · simp only [if_pos h, errors_Is.f, bindS, Bool.false_eq_true, if_false]
    exact Ev.now _
  · simp only [if_neg h, errors_Is.f, if_true, bindS]
    exact Ev.now _
end Go.Proofs.YtfjkpdhldeopaaaDoor.Pu

namespace Go.Proofs.YtfjkpdhldeopaaaDoor.Pu
open Go.RowKit Go.Proofs.YtfjkpdhldeopaaaDoorW.PrintWords Go.Proofs.YtfjkpdhldeopaaaDoorW.PrintLast Go.Proofs.YtfjkpdhldeopaaaDoorW.PrintMore Go.Proofs.YtfjkpdhldeopaaaDoor.G
set_option linter.unusedVariables false
set_option linter.unusedSimpArgs false
def freeB (p : Bool) (l : List RT) : BT := ⟨p, false, 255, 0, 0, l⟩
/-- A valid batch without a producer is told by whether it is packed, and its records. -/
theorem free_of {b : BT} (h : batOk b = true) (h2 : b.f2 = 255) : b = freeB b.f0 b.f5 := by
  obtain ⟨b0, b1, b2, b3, b4, l⟩ := b
  simp only at h2
  subst h2
  unfold batOk headOk at h
  simp only [if_true, Bool.and_eq_true, decide_eq_true_eq, Bool.not_eq_true'] at h
  obtain ⟨⟨rfl, rfl, rfl⟩, -⟩ := h
  rfl
end Go.Proofs.YtfjkpdhldeopaaaDoor.Pu

namespace Go.Proofs.YtfjkpdhldeopaaaDoor.Pu
open Go.RowKit Go.Proofs.YtfjkpdhldeopaaaDoorW.PrintWords Go.Proofs.YtfjkpdhldeopaaaDoorW.PrintLast Go.Proofs.YtfjkpdhldeopaaaDoorW.PrintMore Go.Proofs.YtfjkpdhldeopaaaDoor.G
set_option linter.unusedVariables false
set_option linter.unusedSimpArgs false
theorem sjoin_j (a b : BT) (x : Bool) (ha : batOk a = true) (hb : batOk b = true) : Ev (fun k => spec_BatchJoin.j0 k x a.f0 a.f1 a.f2 a.f3 a.f4 a.f5 b.f0 b.f1 b.f2 b.f3 b.f4 b.f5) (if x = true ∨ ¬ batOk (freeB a.f0 (a.f5 ++ b.f5)) = true then (false, false, 0, 0, 0, [], false) else (a.f0, false, 255, 0, 0, a.f5 ++ b.f5, true)) := by
  refine Ev.step (fun k => by rw [spec_BatchJoin.j0]) ?_
  cases x
  · simp only [Bool.false_eq_true, if_false, false_or]
    have h1 := short_of ha
    have h2 := short_of hb
    have l1 := h1.1
    have l2 := h2.1
    simp only [bindS, List.length_nil, List.nil_append, if_pos (show 0 + a.f5.length < 1759218604441 by omega), if_pos (show a.f5.length + b.f5.length < 1759218604441 by omega)]
    refine Ev.bind (free_ev12 a.f0 (a.f5 ++ b.f5) ⟨by rw [List.length_append]; omega, fun r hr => by rcases List.mem_append.1 hr with hr | hr; exact h1.2 r hr; exact h2.2 r hr⟩) ?_
    have e : batOk ⟨a.f0, false, 255, 0, 0, a.f5 ++ b.f5⟩ = batOk (freeB a.f0 (a.f5 ++ b.f5)) := rfl
    simp only [spec_BatchValid.f, bindS, e]
    by_cases hv : batOk (freeB a.f0 (a.f5 ++ b.f5)) = true
    · rw [if_neg (show ¬ ¬ batOk (freeB a.f0 (a.f5 ++ b.f5)) = true from fun h => h hv)]
      simp only [hv, if_true]
      exact Ev.now _
    · rw [if_pos hv]
      simp only [if_neg hv]
      exact Ev.now _
  · simp only [if_true, true_or]
    exact Ev.now _
theorem sBatchJoin_ev (a b : BT) : Ev (fun k => spec_BatchJoin.f k a.f0 a.f1 a.f2 a.f3 a.f4 a.f5 b.f0 b.f1 b.f2 b.f3 b.f4 b.f5) (bjoinV a b) := by
  have bad : ∀ k, spec_BatchJoin.j0 (k + 1) true a.f0 a.f1 a.f2 a.f3 a.f4 a.f5 b.f0 b.f1 b.f2 b.f3 b.f4 b.f5 = some (false, false, 0, 0, 0, [], false) := fun k => by rw [spec_BatchJoin.j0]; simp
  have badE : Ev (fun k => spec_BatchJoin.j0 k true a.f0 a.f1 a.f2 a.f3 a.f4 a.f5 b.f0 b.f1 b.f2 b.f3 b.f4 b.f5) (false, false, 0, 0, 0, [], false) := Ev.step bad (Ev.now _)
  unfold spec_BatchJoin.f bjoinV joinGood
  simp only [spec_BatchValid.f, bindS]
  cases ha : batOk a
  · simpa using badE
  · cases hb : batOk b
    · simpa using badE
    · simp only [if_true, Bool.true_and]
      by_cases h2 : a.f2 = 255
      · by_cases h3 : b.f2 = 255
        · have ef := free_of ha h2
          have e5 : (⟨a.f0, a.f1, a.f2, a.f3, a.f4, a.f5 ++ b.f5⟩ : BT) = freeB a.f0 (a.f5 ++ b.f5) := by
            obtain ⟨a0, a1, a2, a3, a4, l⟩ := a
            simp only [freeB, S28.mk.injEq, true_and, and_true] at ef ⊢
            exact ef
          have e6 : ((a.f0, a.f1, a.f2, a.f3, a.f4, a.f5 ++ b.f5, true) : BJoinT) = (a.f0, false, 255, 0, 0, a.f5 ++ b.f5, true) := by
            have := e5
            simp only [freeB, S28.mk.injEq, true_and, and_true] at this
            obtain ⟨q1, q2, q3, q4⟩ := this
            rw [q1, q2, q3, q4]
          rw [e5, e6]
          simp only [if_pos h2, if_pos h3, decide_eq_true h2, decide_eq_true h3, Bool.true_and]
          have := sjoin_j a b (a.f0 != b.f0) ha hb
          by_cases h4 : a.f0 = b.f0
          · have e : (a.f0 != b.f0) = false := by simp [h4]
            rw [e] at this ⊢
            simp only [Bool.false_eq_true, false_or] at this
            rw [decide_eq_true h4, Bool.true_and]
            by_cases hv : batOk (freeB a.f0 (a.f5 ++ b.f5)) = true
            · rw [if_neg (by simp [hv])] at this
              rw [if_pos hv]
              exact this
            · rw [if_pos hv] at this
              rw [if_neg hv]
              exact this
          · have e : (a.f0 != b.f0) = true := by simp [h4]
            rw [e, decide_eq_false h4, Bool.false_and, if_neg (by simp)]
            exact badE
        · simp only [if_pos h2, if_neg h3, decide_eq_false h3, Bool.false_and, Bool.and_false, Bool.false_eq_true, if_false]
          exact badE
      · simp only [if_neg h2, decide_eq_false h2, Bool.false_and, Bool.and_false, Bool.false_eq_true, if_false]
        exact badE
end Go.Proofs.YtfjkpdhldeopaaaDoor.Pu

namespace Go.Proofs.YtfjkpdhldeopaaaDoor.Pu
open Go.RowKit Go.Proofs.YtfjkpdhldeopaaaDoorW.PrintWords Go.Proofs.YtfjkpdhldeopaaaDoorW.PrintLast Go.Proofs.YtfjkpdhldeopaaaDoor.G
set_option linter.unusedVariables false
set_option linter.unusedSimpArgs false
theorem mkRow_rd (a : Int) (l : List S62) (i : Nat) (h : i < l.length) : rd_T62 (mkRow a l) (i : Int) = mkRec (a + (totR (l.take i) : Int)) l[i] := by
  rw [rdR_nat _ _ (by rw [mkRow_len]; exact h)]
  have e : mkRow a l = mkRow a (l.take i) ++ mkRow (a + (totR (l.take i) : Int)) (l.drop i) := by rw [← mkRow_append, List.take_append_drop]
  have hl : (mkRow a (l.take i)).length = i := by rw [mkRow_len, List.length_take]; omega
  have : (mkRow a l)[i]? = some (mkRec (a + (totR (l.take i) : Int)) l[i]) := by
    rw [e, List.getElem?_append_right (by omega), hl, Nat.sub_self, List.drop_eq_getElem_cons h]
    simp [mkRow]
  exact (List.getElem?_eq_some_iff.1 this).2
theorem heldR_loop (a : Int) (l : List S62) (hl : l.length ≤ 9223372036854775806) (h0 : 0 ≤ a) (h1 : a + (totR l : Int) ≤ 4000000000000000000) : ∀ d i, l.length - i = d → i ≤ l.length → Ev (fun k => laws_heldRecordS.l0 k (mkRow a l) (a + (totR (l.take i) : Int)) (i : Int)) (a + (totR l : Int)) := by
  intro d
  induction d with
  | zero =>
    intro i hd hi
    obtain rfl : i = l.length := by omega
    refine Ev.step (fun k => by rw [laws_heldRecordS.l0]) ?_
    rw [mkRow_len, List.take_length]
    simp only [if_neg (show ¬ ((l.length : Int) < (l.length : Int)) by omega)]
    exact Ev.now _
  | succ d ih =>
    intro i hd hi
    have hlt : i < l.length := by omega
    refine Ev.step (fun k => by rw [laws_heldRecordS.l0]) ?_
    rw [mkRow_len]
    have hrd := mkRow_rd a l i hlt
    have hnx := totR_take hlt
    have hle := cntR_le hlt
    have ih' := ih (i + 1) (by omega) (by omega)
    rw [hnx] at ih'
    have hb0 : 0 ≤ a + (totR (l.take i) : Int) := by omega
    have hb1 : a + (totR (l.take i) : Int) + (cntR l[i] : Int) ≤ 4000000000000000000 := by omega
    rw [show a + ((totR (l.take i) + cntR l[i] : Nat) : Int) = a + (totR (l.take i) : Int) + (cntR l[i] : Int) by omega] at ih'
    clear hnx hle
    generalize a + (totR (l.take i) : Int) = x1 at *
    rw [hrd]
    generalize l[i] = x at *
    have hc : (cntR x : Int) = 4 + x.f3.length + x.f5.length := by simp [cntR]
    have q7 : (i : Int) < (l.length : Int) := by clear ih ih' hrd; omega
    have q8 : (0 : Int) ≤ (i : Int) := by clear ih ih' hrd; omega
    have q9 : ¬ (x1 + 3 + (x.f3.length : Int) < 0) := by clear ih ih' hrd; omega
    have q10 : ¬ (x1 + 4 + (x.f3.length : Int) + (x.f5.length : Int) < 0) := by clear ih ih' hrd; omega
    have q11 : x1 + 4 + (x.f3.length : Int) + (x.f5.length : Int) = x1 + (cntR x : Int) := by clear ih ih' hrd; omega
    have q1 : x.f3.length ≤ 4000000000000000000 := by clear ih ih' hrd; omega
    have q2 : x.f5.length ≤ 4000000000000000000 := by clear ih ih' hrd; omega
    have q3 : 0 ≤ x1 + 3 := by clear ih ih' hrd; omega
    have q4 : x1 + 3 ≤ 4000000000000000000 := by clear ih ih' hrd; omega
    have q5 : 0 ≤ x1 + 4 + (x.f3.length : Int) := by clear ih ih' hrd; omega
    have q6 : x1 + 4 + (x.f3.length : Int) ≤ 4000000000000000000 := by clear ih ih' hrd; omega
    have wA : wrap64 (x1 + 1) = x1 + 1 := w64 (a := x1 + 1) (by omega) (by omega)
    have wB : wrap64 (x1 + 1 + 1) = x1 + 2 := by rw [w64 (a := x1 + 1 + 1) (by omega) (by omega)]; omega
    have wC : wrap64 (x1 + 2 + 1) = x1 + 3 := by rw [w64 (a := x1 + 2 + 1) (by omega) (by omega)]; omega
    have wD : wrap64 (x1 + 3 + (x.f3.length : Int) + 1) = x1 + 4 + x.f3.length := by rw [w64 (a := x1 + 3 + (x.f3.length : Int) + 1) (by omega) (by omega)]; omega
    have wE : wrap64 ((i : Int) + 1) = (i : Int) + 1 := w64 (a := (i : Int) + 1) (by omega) (by omega)
    simp only [if_pos q7, if_pos q8, mkRec, if_true, wA, wB, wC, bne_self_eq_false, Bool.false_eq_true, if_false]
    refine Ev.bind (heldIntS_ev (x1 + 3) x.f3.length q1 q3 q4) ?_
    simp only [if_neg q9, bne_self_eq_false, Bool.false_eq_true, if_false, wD]
    refine Ev.bind (heldIntS_ev (x1 + 4 + x.f3.length) x.f5.length q2 q5 q6) ?_
    simp only [if_neg q10, wE]
    rw [q11]
    exact ih'
theorem heldRecordS_ev (a : Int) (l : List S62) (hl : l.length ≤ 9223372036854775806) (h0 : 0 ≤ a) (h1 : a + (totR l : Int) ≤ 4000000000000000000) : Ev (fun k => laws_heldRecordS.f k (mkRow a l) a) (a + (totR l : Int)) := by
  unfold laws_heldRecordS.f
  have := heldR_loop a l hl h0 h1 l.length 0 (by omega) (by omega)
  simpa [totR] using this
theorem totR_small : ∀ (l : List S62), (∀ r ∈ l, r.f3.length ≤ 1048576 ∧ r.f5.length ≤ 1048576) → totR l ≤ l.length * 2097156
  | [], _ => by simp [totR]
  | x :: l, h => by
    have h1 := h x List.mem_cons_self
    have h2 := totR_small l (fun r hr => h r (List.mem_cons_of_mem _ hr))
    simp only [totR, cntR, List.length_cons, Nat.add_mul]
    omega
end Go.Proofs.YtfjkpdhldeopaaaDoor.Pu

namespace Go.Proofs.YtfjkpdhldeopaaaDoor.Pure
open Go.RowKit Go.Proofs.YtfjkpdhldeopaaaDoor.G Go.Proofs.YtfjkpdhldeopaaaDoorW.PrintWords Go.Proofs.YtfjkpdhldeopaaaDoorW.PrintLast Go.Proofs.YtfjkpdhldeopaaaDoor.Pu
set_option linter.unusedSimpArgs false
def bT (g : BJoinT) : S28 := ⟨g.1, g.2.1, g.2.2.1, g.2.2.2.1, g.2.2.2.2.1, g.2.2.2.2.2.1⟩
theorem heldBatch_ev (b : S28) (l : List S62) (a : Int) (hl : l.length ≤ 9223372036854775806) (h0 : 0 ≤ a) (h1 : a + (totR l : Int) ≤ 4000000000000000000) : Ev (fun k => laws_heldBatch.f k b.f0 b.f1 b.f2 b.f3 b.f4 (mkRow a l) a) (a + (totR l : Int)) := by
  unfold laws_heldBatch.f
  refine Ev.bind (heldRecordS_ev a l hl h0 h1) ?_
  rw [if_neg (by omega)]
  exact Ev.now _
theorem FnExactBatchJoin : OFnExactBatchJoin.Pure := by
  intro a b ha hb
  have la : LenB a := ⟨ha.2.2.2.2.2.1, fun r hr => ⟨(ha.2.2.2.2.2.2 r hr).2.2.2.1.1, (ha.2.2.2.2.2.2 r hr).2.2.2.2.2.1⟩⟩
  have lb : LenB b := ⟨hb.2.2.2.2.2.1, fun r hr => ⟨(hb.2.2.2.2.2.2 r hr).2.2.2.1.1, (hb.2.2.2.2.2.2 r hr).2.2.2.2.2.1⟩⟩
  obtain ⟨t, ⟨K0, e0⟩, ht⟩ := szBatch_ends a la 1048576 (by omega) (by omega)
  by_cases h : t < 0
  · refine ⟨K0, ?_⟩
    unfold laws_FnExactBatchJoin.f
    rw [if_pos (.inl ⟨t, e0 K0 (Nat.le_refl _), h⟩)]
  · obtain ⟨t0, t1, z0⟩ := ht.resolve_left h
    obtain ⟨u, ⟨K1, e1⟩, hu⟩ := szBatch_ends b lb t t0 t1
    by_cases h2 : u < 0
    · refine ⟨K0 + K1, ?_⟩
      unfold laws_FnExactBatchJoin.f
      rw [if_pos (.inr (.inl ⟨t, u, e0 _ (by omega), t0, e1 _ (by omega), h2⟩))]
    · obtain ⟨_, _, z1⟩ := hu.resolve_left h2
      have rr : ∀ (x : S24), SzB x → RowR (x.f5.map cvR) := fun x hx => ⟨by rw [List.length_map]; have := hx.1; omega, lens_cv hx.2⟩
      have small : ∀ (l : List S62), l.length ≤ 2097152 → (∀ r ∈ l, r.f3.length ≤ 1048576 ∧ r.f5.length ≤ 1048576) → (totR l : Int) ≤ 100000000000000 := by
        intro l hn hz
        have := totR_small l hz
        omega
      have mem : ∀ (x : S24), SzB x → ∀ r ∈ x.f5.map cvR, r.f3.length ≤ 1048576 ∧ r.f5.length ≤ 1048576 := by
        intro x hx r hr
        obtain ⟨y, hy, rfl⟩ := List.mem_map.1 hr
        exact hx.2 y hy
      have gf : (bT (bjoinV (cvB a) (cvB b))).f5 = a.f5.map cvR ++ b.f5.map cvR ∨ (bT (bjoinV (cvB a) (cvB b))).f5 = [] := by
        unfold bjoinV
        split
        · exact .inl rfl
        · exact .inr rfl
      have gl : (bT (bjoinV (cvB a) (cvB b))).f5.length ≤ 2097152 := by
        have := z0.1
        have := z1.1
        rcases gf with e | e <;> rw [e] <;> simp <;> omega
      have gm : ∀ r ∈ (bT (bjoinV (cvB a) (cvB b))).f5, r.f3.length ≤ 1048576 ∧ r.f5.length ≤ 1048576 := by
        rcases gf with e | e <;> rw [e]
        · intro r hr
          rcases List.mem_append.1 hr with hr | hr
          · exact mem a z0 r hr
          · exact mem b z1 r hr
        · simp
      have gR : RowR (bT (bjoinV (cvB a) (cvB b))).f5 := by
        refine ⟨by omega, ?_⟩
        rcases gf with e | e <;> rw [e]
        · intro r hr
          rcases List.mem_append.1 hr with hr | hr
          · exact (rr a z0).2 r hr
          · exact (rr b z1).2 r hr
        · simp
      have gb := small _ gl gm
      have b0 := small (cvB a).f5 (by show (a.f5.map cvR).length ≤ _; rw [List.length_map]; have := z0.1; omega) (mem a z0)
      have b1 := small (cvB b).f5 (by show (b.f5.map cvR).length ≤ _; rw [List.length_map]; have := z1.1; omega) (mem b z1)
      obtain ⟨K2, e2⟩ := toBatch_ev a z0
      obtain ⟨K3, e3⟩ := toBatch_ev b z1
      obtain ⟨K4, e4⟩ := sBatchJoin_ev (cvB a) (cvB b)
      obtain ⟨K5, e5⟩ := BatchJoin_ev (cvB a) (cvB b)
      obtain ⟨K6, e6⟩ := eqBatch_ev (bT (bjoinV (cvB a) (cvB b))) gR
      obtain ⟨K7, e7⟩ := eqBatch_ev (cvB a) (rr a z0)
      obtain ⟨K8, e8⟩ := eqBatch_ev (cvB b) (rr b z1)
      obtain ⟨K9, e9⟩ := heldBatch_ev (bT (bjoinV (cvB a) (cvB b))) (bT (bjoinV (cvB a) (cvB b))).f5 1 (by omega) (by omega) (by omega)
      refine ⟨K0 + K1 + K2 + K3 + K4 + K5 + K6 + K7 + K8 + K9, ?_⟩
      unfold laws_FnExactBatchJoin.f
      rw [if_pos (.inr (.inr ⟨t, u, cvB a, cvB b, bT (bjoinV (cvB a) (cvB b)), (bjoinV (cvB a) (cvB b)).2.2.2.2.2.2, e0 _ (by omega), t0, e1 _ (by omega), by omega, e2 _ (by omega), e3 _ (by omega), e4 _ (by omega), e5 _ (by omega), e6 _ (by omega), e7 _ (by omega), e8 _ (by omega), e9 _ (by omega), b0, b1, gb⟩))]
end Go.Proofs.YtfjkpdhldeopaaaDoor.Pure

namespace Go.Proofs.YtfjkpdhldeopaaaDoor.fnExactBatchJoin
open Go.ChangeShapes Go.WideShapes Go.ChangeAt Go.RowKit Go.Proofs.YtfjkpdhldeopaaaDoor.OFnExactBatchJoin Go.Proofs.YtfjkpdhldeopaaaDoor.G Go.Joins
open Go.ChangeMaps (open_string shut_string)
set_option linter.unusedVariables false
theorem own : ownKnob Tryd.prog.godebug = none := by kernel_rfl
theorem laidOut : laidOutB Tryd.prog = true := by kernel_rfl
theorem star : "*" ++ "errors.errorString" = "*errors.errorString" := by decide
theorem cellsE : Tryd.prog.cellsOf 128 = 1 := by kernel_rfl
theorem cellsS : Tryd.prog.cellsOf 9 = 1 := by kernel_rfl
theorem g0 : Tryd.prog.globalNamed "loop.example/recordbatches/impl.errNoJoin" = some 0 := by kernel_rfl
theorem gT0 : (Tryd.prog.globals[0]?).map (·.type) = some 54 := by kernel_rfl
abbrev text0 : ByteArray := { data := #[110, 111, 32, 106, 111, 105, 110] }
theorem rowE (u : TypeId) (h : Tryd.prog.typeName? 3 u = some "*errors.errorString") : u = 103 :=
  typeName_ptr_named (nm := "errors.errorString") (by rw [star]; kernel_rfl) (by kernel_rfl) (by decide) u (by rw [star]; exact h)
noncomputable def low : Nat := (World.holding Tryd.prog default ⟨#[], #[], []⟩).heap.size
noncomputable def laidWorld (os : Os) : World :=
  let w0 := World.holding Tryd.prog os ⟨#[.cells #[.string text0] 128], #[], []⟩
  { w0 with heap := (w0.heap.modify 0 fun | .cells _ t frozen => .cells #[.iface 103 (.pointer (some ⟨low + 0, 0, none⟩))] t frozen | o => o) }
theorem laid_met (os : Os) (args : Array Value) : laidMetH Tryd.prog Rows.fnExactBatchJoinRow.laid ((laidWorld os).forCall (fun _ _ => 0) ⟨#[], args, []⟩).memory :=
  laidMetH_of_parts (laidMet_of_run (ps := [.cell 0 0, .cell (low + 0) 0]) 8 (by kernel_rfl) (by kernel_rfl) (by kernel_rfl)) (by kernel_rfl)
set_option maxRecDepth 100000 in
theorem lifted (os : Os) (started : os.Started) (H : Type) (enc : TypeId × Value → H) :
    ReturnsInHanded {} Tryd.checked os 3 .any (fun w args => (Rows.fnExactBatchJoinSpec.pre enc Tryd.prog Tryd.f3 Rows.fnExactBatchJoinRow.domain false w args ∧ laidMetH Tryd.prog Rows.fnExactBatchJoinRow.laid w) ∧ sizedMet enc Tryd.prog Tryd.f3 (OpenSpec.ofChange Rows.fnExactBatchJoinSpec) false w args) (Rows.fnExactBatchJoinSpec.post enc Tryd.prog Tryd.f3 false true false false) := by
  refine returnsInHanded_of_change_and (C := Tryd.checked) (X := fun w _ => laidMetH Tryd.prog Rows.fnExactBatchJoinRow.laid w) (fun _ _ _ hh h => h.of_heap hh) own started (by kernel_rfl) Tryd.func3
    (ChangeSpec.witness_at (enc := enc) (C := Tryd.checked) (os := os) (X := fun w _ => laidMetH Tryd.prog Rows.fnExactBatchJoinRow.laid w) false (laidWorld os) #[.agg #[.bool false, .bool false, .int .i64 0, .int .i64 0, .int .i64 0, .slice none 0 0], .agg #[.bool false, .bool false, .int .i64 0, .int .i64 0, .int .i64 0, .slice none 0 0]] 8 rfl (by kernel_rfl) (by kernel_rfl) (by kernel_rfl) (by kernel_rfl) (by kernel_rfl) (laid_met os _)) ?_
  intro W base args ds gs before hval0 hW hcnd hsz0 hLL _
  have hsz : (DataW.weightsEach Tryd.prog (Tryd.f3.params.toList ++ Rows.fnExactBatchJoinSpec.plain.varTypes Tryd.prog) (ds ++ gs)).all (· ≤ reachBytes) = true := hsz0
  have hval : ∀ (j : Nat) t v, Tryd.f3.params[j]? = some t → args[j]? = some v → Value.okWide Tryd.prog W .any base t v := hval0
  have hW' := hW
  obtain ⟨p, q, hA0, hV, rfl, hfz, hnd⟩ := hW
  have hA : DataW.TrodAll enc Tryd.prog W 0 (fun _ => true) true Tryd.f3.params.toList args.toList ds p := hA0
  rw [Tryd.params3] at hA hval hsz
  obtain ⟨v0, vs0, d0, ds0, p0, q0, hargs, rfl, rfl, h0, r0⟩ := trodAll_cons hA
  obtain ⟨v1, vs1, d1, ds1, p1, q1, rfl, rfl, rfl, h1, r1⟩ := trodAll_cons r0
  obtain ⟨rfl, rfl, rfl⟩ := trodAll_nil r1
  obtain rfl : args = #[v0, v1] := by cases args; simp_all
  have hL : laidMet Tryd.prog Rows.fnExactBatchJoinRow.laid W := hLL
  obtain ⟨b0, s0, hv0, hc0, hs0, hz0⟩ := laid_sentinel hL g0 gT0 Tryd.underlying54 rowE Tryd.underlying103 Tryd.underlying128 rfl rfl Tryd.underlying9 cellsE cellsS
  obtain ⟨rfl, rfl⟩ := hV.unique (vars_read1 enc g0 gT0 Tryd.underlying54 hv0 trivial _)
  have hg0 : W.cell? ⟨0, 0, none⟩ = some (.iface 103 (.pointer (some b0))) := by simpa using World.var?_cell g0 hv0 0
  obtain ⟨cs0, rfl, hsz0⟩ := okWide_struct Tryd.underlying24 (hval 0 24 v0 rfl rfl)
  have k0 := h0
  have lt0 : ∀ x ∈ p0, x.block < W.heap.size := by obtain ⟨m, hm⟩ := k0; exact DataW.trod_lt m _ _ _ hm
  obtain ⟨fuel0, hf0⟩ := h0
  obtain ⟨x0, hK0, ho0⟩ := (open24).2 _ _ _ hf0
  obtain ⟨A0_5, c0_5, hcs0, hlc0_5, hC0_5⟩ := k24_open hK0
  have hcs0' : cs0 = #[.bool (x0.f0), .bool (x0.f1), .int .i64 (x0.f2), .int .i64 (x0.f3), .int .i64 (x0.f4), .slice A0_5 (x0.f5).length c0_5] := by
    cases cs0
    simpa [Value.cells] using hcs0
  subst hcs0'
  obtain ⟨cs1, rfl, hsz1⟩ := okWide_struct Tryd.underlying24 (hval 1 24 v1 rfl rfl)
  have k1 := h1
  have lt1 : ∀ x ∈ p1, x.block < W.heap.size := by obtain ⟨m, hm⟩ := k1; exact DataW.trod_lt m _ _ _ hm
  obtain ⟨fuel1, hf1⟩ := h1
  obtain ⟨x1, hK1, ho1⟩ := (open24).2 _ _ _ hf1
  obtain ⟨A1_5, c1_5, hcs1, hlc1_5, hC1_5⟩ := k24_open hK1
  have hcs1' : cs1 = #[.bool (x1.f0), .bool (x1.f1), .int .i64 (x1.f2), .int .i64 (x1.f3), .int .i64 (x1.f4), .slice A1_5 (x1.f5).length c1_5] := by
    cases cs1
    simpa [Value.cells] using hcs1
  subst hcs1'
  clear hA0 hval0 hsz0 hsz
  obtain ⟨k, h⟩ := Pure.FnExactBatchJoin x0 x1 ho0 ho1
  letI : ErrA := ⟨fun n => b0⟩
  have hE : ErrOk [0] W := fun g hg => by
    have hg' : g = 0 := by simpa using hg
    rcases hg' with rfl
    · exact hg0
  refine (laws_FnExactBatchJoin.calls k (x0.f0) (x0.f1) (x0.f2) (x0.f3) (x0.f4) _ _ (x0.f5) (x1.f0) (x1.f1) (x1.f2) (x1.f3) (x1.f4) _ _ (x1.f5) true W hE hC0_5 hlc0_5 hC1_5 hlc1_5 h).mono fun e W' ⟨he, bel0⟩ => ?_
  subst he
  have bel : Below W.heap.size W W' := bel0
  have hw0 : W'.var? Tryd.prog "loop.example/recordbatches/impl.errNoJoin" = some #[.iface 103 (.pointer (some b0))] := var?_below bel g0 (World.block_lt_of_cell? W _ hg0) hv0
  exact ⟨_, rfl, _, _, _, [], _, _, hW', trodAll_mk1 (shut_bool Tryd.underlying4 _), (trodAll_cons_mk (Below.trod laidOut (by kernel_rfl) (of_decide_eq_true (by kernel_rfl)) k0 bel lt0) (trodAll_cons_mk (Below.trod laidOut (by kernel_rfl) (of_decide_eq_true (by kernel_rfl)) k1 bel lt1) trodAll_mk0)), vars_read1 enc g0 gT0 Tryd.underlying54 hw0 trivial _, bel.frame _, fun h => by cases h⟩
theorem over : Rows.fnExactBatchJoinRow.holds Tryd.pinned (OpenSpec.ofChange Rows.fnExactBatchJoinSpec) :=
  OpenClaim.holds_of_wide 3 Tryd.f3 rfl rfl rfl rfl rfl rfl rfl ⟨rfl, rfl, rfl, rfl, rfl⟩ rfl rfl rfl rfl rfl (by kernel_rfl) Tryd.func3 (by kernel_rfl)
    (of_decide_eq_true (by kernel_rfl)) (by unfold Func.isWrapper; first | (rw [if_pos (by decide +kernel)]; kernel_rfl) | (rw [if_neg (by decide +kernel)]; exact ⟨rfl, rfl⟩))
    (fun os started H enc _ => lifted os started H enc)
theorem proved : Rows.FnExactBatchJoinSaid := over
#print axioms proved
end Go.Proofs.YtfjkpdhldeopaaaDoor.fnExactBatchJoin
namespace Go.Proofs.YtfjkpdhldeopaaaDoor
/-- The row, under a short name, for the claim. -/
theorem fnExactBatchJoin_holds : Rows.FnExactBatchJoinSaid := fnExactBatchJoin.proved
theorem fnExactBatchJoin_card : Rows.FnExactBatchJoinCardSaid :=
  Claim7.holds_tied_plain_at .later [] [.sentinel] true (true, "b61f1c08241aa9639d9ab7dbd627422c50556f76b0fa2dd21839bf8d79a0296e") true
    fnExactBatchJoin_holds (fun _ h => by cases h) (by kernel_rfl) (fun _ h => by cases h) fnExactBatchJoin_row_tie rfl ⟨rfl, rfl⟩ (by kernel_rfl) rfl
    (fun f fn hf hfn => by
      obtain rfl : f = 3 := Option.some.inj ((show Tryd.prog.funcNamed "loop.example/recordbatches/laws.FnExactBatchJoin" = some 3 by kernel_rfl).symm.trans hf) |>.symm
      obtain rfl : fn = Tryd.f3 := (Option.some.inj (Tryd.func3.symm.trans hfn)).symm
      exact ⟨by kernel_rfl, fun j t ht => by
        rw [Tryd.params3] at ht
        have h3 : t = 24 := by
          rcases j with _ | (_ | j)
          · have h_ := ht.symm; simp at h_; simp [h_]
          · have h_ := ht.symm; simp at h_; simp [h_]
          · simp at ht
        rcases h3 with rfl
        · exact (show Tryd.prog.wantsStandIn 24 = false by kernel_rfl)⟩)
    (by kernel_rfl)
#print axioms fnExactBatchJoin_card
end Go.Proofs.YtfjkpdhldeopaaaDoor

