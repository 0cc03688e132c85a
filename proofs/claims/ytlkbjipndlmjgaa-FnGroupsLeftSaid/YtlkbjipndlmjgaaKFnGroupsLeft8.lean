/- A text of seat Ytlkbjipndlmjgaa: what the law FnGroupsLeft needs of this repo's texts (by pack.py). Not trusted: Lean checks it. -/
import Derived.Test.YtlkbjipndlmjgaaKFnGroupsLeft7
import Derived.OwnWalkIn
namespace Go.Proofs.Ytlkbjipndlmjgaa.G
open Go.RowKit Go.Proofs.YtlkbjipndlmjgaaW.PrintWords Go.Proofs.YtlkbjipndlmjgaaW.PrintLast Go.Proofs.YtlkbjipndlmjgaaW.PrintMore
attribute [local go_sem] max2_int min2_int max_two min_two max_three min_three max_four min_four   -- for this text's walks alone
set_option linter.unusedVariables false
set_option linter.unusedSimpArgs false

set_option maxHeartbeats 8000000 in
set_option maxRecDepth 100000 in
theorem spec_l92Groups.calls (k : Nat) (g : Nat) (s0_0 : List Int) (s0_1 : Int) (r1 : List (S31)) (r2 : Int) (w0 w : World) (hI : IsS68 w0 w g s0_0 s0_1) (hB : Below w0.heap.size w0 w) (h : spec_l92Groups.f k s0_0 s0_1 = some (r1, r2)) :
  Calls Try.prog 16 #[.pointer (some ⟨g, 0, none⟩)] w fun e w' => ∃ v0_ : Value, e = .returned (v0_) ∧ Kd.R k31 31 w' w.heap.size (fun _ => True) v0_ r1 ∧ IsS68 w0 w' g s0_0 r2 ∧ Below w0.heap.size w0 w' ∧ KeepBut w w' g none := by
 have hu31 := Try.underlying31
 have HI0 := Aside0.mk hI
 have HK := Aside0.mk (KeepBut.refl w g none)
 have HL := Aside0.mk hB.size
 clear hI
 have HW0 := Aside0.mk hB.size
 have HB := Aside0.mk hB
 clear hB
 have H : ((spec_l6Rd_pick.f k s0_0 s0_1 6).bind fun bt152 => (spec_l92Groups.l0 k (([] : List (S31))) bt152.1 0 s0_0 bt152.2)) = some (r1, r2) := h
 clear h
 obtain ⟨y149, hy149⟩ : ∃ y_ : List (S31), y_ = (([] : List (S31))) := ⟨_, rfl⟩
 replace H : ((spec_l6Rd_pick.f k s0_0 s0_1 6).bind fun bt152 => (spec_l92Groups.l0 k y149 bt152.1 0 s0_0 bt152.2)) = some (r1, r2) := by first | (rw [hy149]; with_reducible exact H) | (have H2_ := (Option.bind_some _ _).symm.trans H; rw [hy149]; with_reducible exact H2_) | (have H2_ := (Option.bind_some _ _).symm.trans H; with_reducible exact H2_) | with_reducible exact H | (rw [hy149]; exact H) | exact H
 have Ny149 := Aside0.mk hy149
 clear hy149
 replace H := Option.bind_eq_some_iff.mp H
 obtain ⟨⟨t152, t153⟩, A20, H⟩ := H
 replace H : (spec_l92Groups.l0 k y149 t152 0 s0_0 t153) = some (r1, r2) := H
 have A2 := Aside0.mk A20
 clear A20
 have H' := Aside0.mk H
 clear H
 go_enter Try.func16, Try.ntmps16
 go_wp2_with (first | ((with_reducible refine gate_dst (N := 8) rfl ?_); refine Kd.R_lit k31 _ 31 ?hg (N := 8) ?hd (xs := ([] : List (S31))) (inner := []) (ok := fun _ => True) (okp := fun _ => True) ?hr ?hp (fun _ hk => hk) trivial (Below.refl _ _) (Nat.le_refl _) (by simp) ?_; (case hd => rfl); (case hg => rfl); (case hr => first | (go_simp; done) | (go_simp; rfl)); (case hp => exact (Reps.none _ _)); intro v150 w3 ho4 hb hg_ hnew_; clear hg_ hnew_; (first | rw [← Ny149.out] at ho4 | (simp only [Int.reduceToNat] at ho4; rw [← Ny149.out] at ho4)); have n0_ := Aside0.mk (Kd.R_lower ho4 (keep_size (w := w) (g := g) (row := none) (by repeat (first | (with_reducible first | exact HK.out | apply KeepBut.set_ | apply keep_drewN | apply keep_drew | apply keep_alloc) | exact HK.out)))); have n1_ := Aside0.mk (IsS68.below (by repeat (first | (with_reducible first | exact HI0.out | apply IsS68.alloc | apply IsS68.drewN | apply IsS68.drew | apply IsS68.set_1) | exact HI0.out)) hb); have n2_ := Aside0.mk (KeepBut.trans (by repeat (first | (with_reducible first | exact HK.out | apply KeepBut.set_ | apply keep_drewN | apply keep_drew | apply keep_alloc) | exact HK.out)) (KeepBut.of_below hb g none) (.inl rfl)); have n3_ := Aside0.mk (below_step (by repeat (first | (with_reducible first | exact HB.out | apply below_alloc | apply pw_below_drewN | apply below_drew1 | refine below_set ?_ (IsS68.ge HI0.out)) | exact HB.out)) hb); clear HI0; clear HK; clear HB; have HO151 := n0_; have HI0 := n1_; have HK := n2_; have HB := n3_; clear n0_ n1_ n2_ n3_; clear hb ho4) | ((with_reducible refine gate_callee (f := 18) rfl ?_); refine goesL_ (some 10) rfl rfl Try.func18 (by kernel_rfl) rfl #[.pointer (some ⟨g, 0, none⟩), .int .i64 6] rfl (by (try simp only [List.map_toArray, List.map_cons, List.map_nil]); first | done | rfl | (simp only [List.length_drop, List.length_take]; rfl)) ?_; (with_reducible refine (spec_l6Rd_pick.calls k g s0_0 s0_1 6 t152 t153 w0 _ ?side1 ?side2 A2.out).mono ?_); (case side1 => repeat (first | (with_reducible first | exact HI0.out | apply IsS68.alloc | apply IsS68.drewN | apply IsS68.drew | apply IsS68.set_1) | exact HI0.out)); (case side2 => repeat (first | (with_reducible first | exact HB.out | apply below_alloc | apply pw_below_drewN | apply below_drew1 | refine below_set ?_ (IsS68.ge HI0.out)) | exact HB.out)); rintro e w5 ⟨rfl, hi, hb, hk⟩; refine ⟨_, rfl, ?_⟩; have n0_ := Aside0.mk (Kd.R_mono (Kd.R_keep (IsS68.apart (show IsS68 w0 _ g s0_0 s0_1 from by repeat (first | (with_reducible first | exact HI0.out | apply IsS68.alloc | apply IsS68.drewN | apply IsS68.drew | apply IsS68.set_1) | exact HI0.out)) (by (with_reducible repeat (first | apply Kd.R_alloc | apply Kd.R_drewN | apply Kd.R_drew)); exact HO151.out) (by decide)) hk (fun _ h => h.2)) (fun _ h => h.1)); have n1_ := Aside0.mk (KeepBut.trans (by repeat (first | (with_reducible first | exact HK.out | apply KeepBut.set_ | apply keep_drewN | apply keep_drew | apply keep_alloc) | exact HK.out)) hk (.inl rfl)); have n2_ := Aside0.mk (hb); have n3_ := Aside0.mk (hi); clear HO151; clear HK; clear HB; clear HI0; have HO151 := n0_; have HK := n1_; have HB := n2_; have HI0 := n3_; clear n0_ n1_ n2_ n3_; (try clear hb); (try clear hb2); (try clear hk); (try clear hi)))
 go_loopg [3, 5] k (fun kq v3 v5 w' => ∃ (x3_1 : List (S31)) (x5_1 : Int) (x1001_1 : Int), v5 = .int .i64 x5_1 ∧ Aside0 (spec_l92Groups.l0 kq x3_1 t152 x5_1 s0_0 x1001_1 = some (r1, r2)) ∧ Aside0 (kq ≤ k) ∧ Aside0 (Kd.R k31 31 w' w.heap.size (fun _ => True) v3 x3_1) ∧ Aside0 (IsS68 w0 w' g s0_0 x1001_1) ∧ Aside0 (KeepBut w w' g none) ∧ Aside0 (Below w0.heap.size w0 w'))
 case atStart => exact ⟨(y149), (0), (t153), (by first | rfl | (simp; done) | (simp [*]; done)), H', ⟨Nat.le_refl _⟩, ⟨by (with_reducible repeat (first | apply Kd.R_alloc | apply Kd.R_drewN | apply Kd.R_drew)); exact HO151.out⟩, ⟨by repeat (first | (with_reducible first | exact HI0.out | apply IsS68.alloc | apply IsS68.drewN | apply IsS68.drew | apply IsS68.set_1) | exact HI0.out)⟩, ⟨by repeat (first | (with_reducible first | exact HK.out | apply KeepBut.set_ | apply keep_drewN | apply keep_drew | apply keep_alloc) | exact HK.out)⟩, ⟨by repeat (first | (with_reducible first | exact HB.out | apply below_alloc | apply pw_below_drewN | apply below_drew1 | refine below_set ?_ (IsS68.ge HI0.out)) | exact HB.out)⟩⟩
 case round =>
  clear H'
  try clear c1
  try clear p2
  obtain ⟨x3_1, x5_1, x1001_1, rfl, HA, HK1, HO_3, HI0, HK, HB⟩ := hrel
  cases gk with
  | zero => exact absurd HA.out (by simp [spec_l92Groups.l0])
  | succ k1 =>
   have H := HA.out
   clear HA
   simp only [spec_l92Groups.l0] at H
   by_cases c6 : x5_1 < t152
   ·rw [if_pos c6] at H
    have c6b0 : decide (x5_1 < t152) = true := decide_eq_true c6
    clear c6
    obtain ⟨y154, hy154⟩ : ∃ y_ : List ByteArray, y_ = (([(⟨#[97]⟩ : ByteArray), (⟨#[98, 101, 101]⟩ : ByteArray), (⟨#[99, 97, 116]⟩ : ByteArray), (⟨#[100, 111, 103]⟩ : ByteArray), (⟨#[101, 109, 117]⟩ : ByteArray), (⟨#[102, 111, 120]⟩ : ByteArray), (⟨#[103, 110, 117]⟩ : ByteArray), (⟨#[104, 101, 110]⟩ : ByteArray)] : List ByteArray)) := ⟨_, rfl⟩
    replace H : ((spec_l6Rd_of.f k1 s0_0 x1001_1 y154).bind fun bt157 => ((spec_l6Rd_pick.f k1 s0_0 bt157.2 20).bind fun bt159 => ((spec_GroupsPut.f k1 x3_1 bt157.1 bt159.1).bind fun bt161 => (if bt161.2 = true then (spec_l92Groups.l0 k1 bt161.1 t152 (wrap64 (x5_1 + 1)) s0_0 bt159.2) else (spec_l92Groups.l0 k1 x3_1 t152 (wrap64 (x5_1 + 1)) s0_0 bt159.2))))) = some (r1, r2) := by first | (rw [hy154]; with_reducible exact H) | (have H2_ := (Option.bind_some _ _).symm.trans H; rw [hy154]; with_reducible exact H2_) | (have H2_ := (Option.bind_some _ _).symm.trans H; with_reducible exact H2_) | with_reducible exact H | (rw [hy154]; exact H) | exact H
    have Ny154 := Aside0.mk hy154
    clear hy154
    replace H := Option.bind_eq_some_iff.mp H
    obtain ⟨⟨t157, t158⟩, A70, H⟩ := H
    replace H : ((spec_l6Rd_pick.f k1 s0_0 t158 20).bind fun bt159 => ((spec_GroupsPut.f k1 x3_1 t157 bt159.1).bind fun bt161 => (if bt161.2 = true then (spec_l92Groups.l0 k1 bt161.1 t152 (wrap64 (x5_1 + 1)) s0_0 bt159.2) else (spec_l92Groups.l0 k1 x3_1 t152 (wrap64 (x5_1 + 1)) s0_0 bt159.2)))) = some (r1, r2) := H
    have A7 := Aside0.mk A70
    clear A70
    replace H := Option.bind_eq_some_iff.mp H
    obtain ⟨⟨t159, t160⟩, A80, H⟩ := H
    replace H : ((spec_GroupsPut.f k1 x3_1 t157 t159).bind fun bt161 => (if bt161.2 = true then (spec_l92Groups.l0 k1 bt161.1 t152 (wrap64 (x5_1 + 1)) s0_0 t160) else (spec_l92Groups.l0 k1 x3_1 t152 (wrap64 (x5_1 + 1)) s0_0 t160))) = some (r1, r2) := H
    have A8 := Aside0.mk A80
    clear A80
    replace H := Option.bind_eq_some_iff.mp H
    obtain ⟨⟨t161, t164⟩, A90, H⟩ := H
    replace H : (if t164 = true then (spec_l92Groups.l0 k1 t161 t152 (wrap64 (x5_1 + 1)) s0_0 t160) else (spec_l92Groups.l0 k1 x3_1 t152 (wrap64 (x5_1 + 1)) s0_0 t160)) = some (r1, r2) := H
    have A9 := Aside0.mk A90
    clear A90
    by_cases c10 : t164 = true
    ·subst c10
     have H1 : (spec_l92Groups.l0 k1 t161 t152 (wrap64 (x5_1 + 1)) s0_0 t160) = some (r1, r2) := by rw [if_pos rfl] at H; exact H
     clear H
     have H := H1
     clear H1
     have H' := Aside0.mk H
     clear H
     go_wp2_with (first | ((with_reducible refine gate_dst (N := 19) rfl ?_); refine Kd.R_lit Kd.string _ 9 ?hg (N := 19) ?hd (xs := ([(⟨#[97]⟩ : ByteArray), (⟨#[98, 101, 101]⟩ : ByteArray), (⟨#[99, 97, 116]⟩ : ByteArray), (⟨#[100, 111, 103]⟩ : ByteArray), (⟨#[101, 109, 117]⟩ : ByteArray), (⟨#[102, 111, 120]⟩ : ByteArray), (⟨#[103, 110, 117]⟩ : ByteArray), (⟨#[104, 101, 110]⟩ : ByteArray)] : List ByteArray)) (inner := [.string (⟨#[97]⟩ : ByteArray), .string (⟨#[98, 101, 101]⟩ : ByteArray), .string (⟨#[99, 97, 116]⟩ : ByteArray), .string (⟨#[100, 111, 103]⟩ : ByteArray), .string (⟨#[101, 109, 117]⟩ : ByteArray), .string (⟨#[102, 111, 120]⟩ : ByteArray), .string (⟨#[103, 110, 117]⟩ : ByteArray), .string (⟨#[104, 101, 110]⟩ : ByteArray)]) (ok := fun _ => True) (okp := fun _ => True) ?hr ?hp (fun _ hk => hk) trivial (Below.refl _ _) (Nat.le_refl _) (by simp) ?_; (case hd => rfl); (case hg => rfl); (case hr => first | (go_simp; done) | (go_simp; rfl)); (case hp => exact (Reps.one (show Kd.M Kd.string _ _ _ (⟨#[97]⟩ : ByteArray) [.string (⟨#[97]⟩ : ByteArray)] from rfl) (Reps.one (show Kd.M Kd.string _ _ _ (⟨#[98, 101, 101]⟩ : ByteArray) [.string (⟨#[98, 101, 101]⟩ : ByteArray)] from rfl) (Reps.one (show Kd.M Kd.string _ _ _ (⟨#[99, 97, 116]⟩ : ByteArray) [.string (⟨#[99, 97, 116]⟩ : ByteArray)] from rfl) (Reps.one (show Kd.M Kd.string _ _ _ (⟨#[100, 111, 103]⟩ : ByteArray) [.string (⟨#[100, 111, 103]⟩ : ByteArray)] from rfl) (Reps.one (show Kd.M Kd.string _ _ _ (⟨#[101, 109, 117]⟩ : ByteArray) [.string (⟨#[101, 109, 117]⟩ : ByteArray)] from rfl) (Reps.one (show Kd.M Kd.string _ _ _ (⟨#[102, 111, 120]⟩ : ByteArray) [.string (⟨#[102, 111, 120]⟩ : ByteArray)] from rfl) (Reps.one (show Kd.M Kd.string _ _ _ (⟨#[103, 110, 117]⟩ : ByteArray) [.string (⟨#[103, 110, 117]⟩ : ByteArray)] from rfl) (Reps.one (show Kd.M Kd.string _ _ _ (⟨#[104, 101, 110]⟩ : ByteArray) [.string (⟨#[104, 101, 110]⟩ : ByteArray)] from rfl) (Reps.none _ _)))))))))); intro v155 w11 ho12 hb hg_ hnew_; clear hg_ hnew_; (first | rw [← Ny154.out] at ho12 | (simp only [Int.reduceToNat] at ho12; rw [← Ny154.out] at ho12)); have n0_ := Aside0.mk (Kd.R_below (by (with_reducible repeat (first | apply Kd.R_alloc | apply Kd.R_drewN | apply Kd.R_drew)); exact HO_3.out) hb); have n1_ := Aside0.mk (Kd.R_lower ho12 (keep_size (w := w) (g := g) (row := none) (by repeat (first | (with_reducible first | exact HK.out | apply KeepBut.set_ | apply keep_drewN | apply keep_drew | apply keep_alloc) | exact HK.out)))); have n2_ := Aside0.mk (IsS68.below (by repeat (first | (with_reducible first | exact HI0.out | apply IsS68.alloc | apply IsS68.drewN | apply IsS68.drew | apply IsS68.set_1) | exact HI0.out)) hb); have n3_ := Aside0.mk (KeepBut.trans (by repeat (first | (with_reducible first | exact HK.out | apply KeepBut.set_ | apply keep_drewN | apply keep_drew | apply keep_alloc) | exact HK.out)) (KeepBut.of_below hb g none) (.inl rfl)); have n4_ := Aside0.mk (below_step (by repeat (first | (with_reducible first | exact HB.out | apply below_alloc | apply pw_below_drewN | apply below_drew1 | refine below_set ?_ (IsS68.ge HI0.out)) | exact HB.out)) hb); clear HO_3; clear HI0; clear HK; clear HB; have HO_3 := n0_; have HO156 := n1_; have HI0 := n2_; have HK := n3_; have HB := n4_; clear n0_ n1_ n2_ n3_ n4_; clear hb ho12; obtain ⟨Ao13, co13, eo13⟩ := Kd.R_slice HO156.out; subst eo13) | ((with_reducible refine gate_callee (f := 32) rfl ?_); refine goesL_ (some 20) rfl rfl Try.func32 (by kernel_rfl) rfl #[.pointer (some ⟨g, 0, none⟩), .slice Ao13 y154.length co13] rfl (by (try simp only [List.map_toArray, List.map_cons, List.map_nil]); first | done | rfl | (simp only [List.length_drop, List.length_take]; rfl)) ?_; (with_reducible refine (spec_l6Rd_of.calls k1 g s0_0 x1001_1 _ _ y154 t157 t158 w0 _ ?side1 ?side2 ?side3 ?side4 ?side5 A7.out).mono ?_); (case side1 => repeat (first | (with_reducible first | exact HI0.out | apply IsS68.alloc | apply IsS68.drewN | apply IsS68.drew | apply IsS68.set_1) | exact HI0.out)); (case side2 => repeat (first | (with_reducible first | exact HB.out | apply below_alloc | apply pw_below_drewN | apply below_drew1 | refine below_set ?_ (IsS68.ge HI0.out)) | exact HB.out)); (case side3 => repeat (first | exact (Kd.R_reads' HO156.out).2.2 | (with_reducible refine Kd.C_alloc ?_ _) | (with_reducible refine Kd.C_drewN ?_ _) | (with_reducible refine Kd.C_drew ?_))); (case side4 => exact (Kd.R_reads' HO156.out).2.1); (case side5 => exact far_slice (IsS68.own_ne HI0.out HO156.out (by decide))); rintro e w14 ⟨rfl, hi, hb, hk⟩; refine ⟨_, rfl, ?_⟩; have n0_ := Aside0.mk (Kd.R_mono (Kd.R_keep (IsS68.apart (show IsS68 w0 _ g s0_0 x1001_1 from by repeat (first | (with_reducible first | exact HI0.out | apply IsS68.alloc | apply IsS68.drewN | apply IsS68.drew | apply IsS68.set_1) | exact HI0.out)) (by (with_reducible repeat (first | apply Kd.R_alloc | apply Kd.R_drewN | apply Kd.R_drew)); exact HO_3.out) (by decide)) hk (fun _ h => h.2)) (fun _ h => h.1)); have n1_ := Aside0.mk (Kd.R_mono (Kd.R_keep (IsS68.apart (show IsS68 w0 _ g s0_0 x1001_1 from by repeat (first | (with_reducible first | exact HI0.out | apply IsS68.alloc | apply IsS68.drewN | apply IsS68.drew | apply IsS68.set_1) | exact HI0.out)) (by (with_reducible repeat (first | apply Kd.R_alloc | apply Kd.R_drewN | apply Kd.R_drew)); exact HO156.out) (by decide)) hk (fun _ h => h.2)) (fun _ h => h.1)); have n2_ := Aside0.mk (KeepBut.trans (by repeat (first | (with_reducible first | exact HK.out | apply KeepBut.set_ | apply keep_drewN | apply keep_drew | apply keep_alloc) | exact HK.out)) hk (.inl rfl)); have n3_ := Aside0.mk (hb); have n4_ := Aside0.mk (hi); clear HO_3; clear HO156; clear HK; clear HB; clear HI0; have HO_3 := n0_; have HO156 := n1_; have HK := n2_; have HB := n3_; have HI0 := n4_; clear n0_ n1_ n2_ n3_ n4_; (try clear hb); (try clear hb2); (try clear hk); (try clear hi)) | ((with_reducible refine gate_callee (f := 18) rfl ?_); refine goesL_ (some 22) rfl rfl Try.func18 (by kernel_rfl) rfl #[.pointer (some ⟨g, 0, none⟩), .int .i64 20] rfl (by (try simp only [List.map_toArray, List.map_cons, List.map_nil]); first | done | rfl | (simp only [List.length_drop, List.length_take]; rfl)) ?_; (with_reducible refine (spec_l6Rd_pick.calls k1 g s0_0 t158 20 t159 t160 w0 _ ?side1 ?side2 A8.out).mono ?_); (case side1 => repeat (first | (with_reducible first | exact HI0.out | apply IsS68.alloc | apply IsS68.drewN | apply IsS68.drew | apply IsS68.set_1) | exact HI0.out)); (case side2 => repeat (first | (with_reducible first | exact HB.out | apply below_alloc | apply pw_below_drewN | apply below_drew1 | refine below_set ?_ (IsS68.ge HI0.out)) | exact HB.out)); rintro e w15 ⟨rfl, hi, hb, hk⟩; refine ⟨_, rfl, ?_⟩; have n0_ := Aside0.mk (Kd.R_mono (Kd.R_keep (IsS68.apart (show IsS68 w0 _ g s0_0 t158 from by repeat (first | (with_reducible first | exact HI0.out | apply IsS68.alloc | apply IsS68.drewN | apply IsS68.drew | apply IsS68.set_1) | exact HI0.out)) (by (with_reducible repeat (first | apply Kd.R_alloc | apply Kd.R_drewN | apply Kd.R_drew)); exact HO_3.out) (by decide)) hk (fun _ h => h.2)) (fun _ h => h.1)); have n1_ := Aside0.mk (Kd.R_mono (Kd.R_keep (IsS68.apart (show IsS68 w0 _ g s0_0 t158 from by repeat (first | (with_reducible first | exact HI0.out | apply IsS68.alloc | apply IsS68.drewN | apply IsS68.drew | apply IsS68.set_1) | exact HI0.out)) (by (with_reducible repeat (first | apply Kd.R_alloc | apply Kd.R_drewN | apply Kd.R_drew)); exact HO156.out) (by decide)) hk (fun _ h => h.2)) (fun _ h => h.1)); have n2_ := Aside0.mk (KeepBut.trans (by repeat (first | (with_reducible first | exact HK.out | apply KeepBut.set_ | apply keep_drewN | apply keep_drew | apply keep_alloc) | exact HK.out)) hk (.inl rfl)); have n3_ := Aside0.mk (hb); have n4_ := Aside0.mk (hi); clear HO_3; clear HO156; clear HK; clear HB; clear HI0; have HO_3 := n0_; have HO156 := n1_; have HK := n2_; have HB := n3_; have HI0 := n4_; clear n0_ n1_ n2_ n3_ n4_; (try clear hb); (try clear hb2); (try clear hk); (try clear hi); obtain ⟨Ao16, co16, eo16⟩ := Kd.R_slice HO_3.out; subst eo16) | ((with_reducible refine gate_callee (f := 31) rfl ?_); refine goesL_ (some 24) rfl rfl Try.func31 (by kernel_rfl) rfl #[.slice Ao16 x3_1.length co16, .agg #[.string t157, .int .i64 t159]] rfl (by (try simp only [List.map_toArray, List.map_cons, List.map_nil]); first | done | rfl | (simp only [List.length_drop, List.length_take]; rfl)) ?_; (with_reducible refine (spec_GroupsPut.calls k1 _ _ x3_1 t157 t159 t161 true _ ?side1 ?side2 A9.out).mono ?_); (case side1 => repeat (first | exact (Kd.R_reads' HO_3.out).2.2 | (with_reducible refine Kd.C_alloc ?_ _) | (with_reducible refine Kd.C_drewN ?_ _) | (with_reducible refine Kd.C_drew ?_))); (case side2 => exact (Kd.R_reads' HO_3.out).2.1); rintro e w17 ⟨v162, rfl, ho0, hb⟩; have u_v162 : ∀ (a_ : Addr) (m_ : Mode) (W_ : World), (store a_ v162 m_).run Try.prog W_ = stored Try.prog W_ a_ v162 m_ := fun a_ m_ W_ => run_store _ W_ a_ _ m_ (by first | (obtain ⟨_, _, e_⟩ := Kd.R_slice ho0; rw [e_]; rfl) | (obtain ⟨_, _, e_⟩ := Kd.S_slice ho0; rw [e_]; rfl) | (obtain ⟨_, _, e_, _⟩ := Kd.Q_slice ho0; rw [e_]; rfl) | (obtain ⟨_, _, e_⟩ := Kd.N_slice ho0; rw [e_]; rfl) | (obtain ⟨_, _, e_⟩ := Kd.V_slice ho0; rw [e_]; rfl)); refine ⟨_, rfl, ?_⟩; have n0_ := Aside0.mk (Kd.R_elder' (by (with_reducible repeat (first | apply Kd.R_alloc | apply Kd.R_drewN | apply Kd.R_drew)); exact HO_3.out) (Kd.R_base ho0) hb); have n1_ := Aside0.mk (Kd.R_below (by (with_reducible repeat (first | apply Kd.R_alloc | apply Kd.R_drewN | apply Kd.R_drew)); exact HO156.out) hb); have n2_ := Aside0.mk (Kd.R_lower (Kd.R_new' ho0 (Kd.R_lt (by (with_reducible repeat (first | apply Kd.R_alloc | apply Kd.R_drewN | apply Kd.R_drew)); exact HO_3.out))) (keep_size (w := w) (g := g) (row := none) (by repeat (first | (with_reducible first | exact HK.out | apply KeepBut.set_ | apply keep_drewN | apply keep_drew | apply keep_alloc) | exact HK.out)))); have n3_ := Aside0.mk (IsS68.below (by repeat (first | (with_reducible first | exact HI0.out | apply IsS68.alloc | apply IsS68.drewN | apply IsS68.drew | apply IsS68.set_1) | exact HI0.out)) hb); have n4_ := Aside0.mk (KeepBut.trans (by repeat (first | (with_reducible first | exact HK.out | apply KeepBut.set_ | apply keep_drewN | apply keep_drew | apply keep_alloc) | exact HK.out)) (KeepBut.of_below hb g none) (.inl rfl)); have n5_ := Aside0.mk (below_step (by repeat (first | (with_reducible first | exact HB.out | apply below_alloc | apply pw_below_drewN | apply below_drew1 | refine below_set ?_ (IsS68.ge HI0.out)) | exact HB.out)) hb); clear HO_3; clear HO156; clear HI0; clear HK; clear HB; have HO_3 := n0_; have HO156 := n1_; have HO163 := n2_; have HI0 := n3_; have HK := n4_; have HB := n5_; clear n0_ n1_ n2_ n3_ n4_ n5_; (try clear hb); (try clear hb2); (try clear hk); (try clear hi); (try clear ho0)))
     go_roundg k1
     case measure => have := HK1.out; omega
     case rel => exact ⟨(t161), (wrap64 (x5_1 + 1)), (t160), (by first | rfl | (simp; done) | (simp [*]; done)), H', ⟨by have := HK1.out; omega⟩, ⟨by (with_reducible repeat (first | apply Kd.R_alloc | apply Kd.R_drewN | apply Kd.R_drew)); exact Kd.R_mono HO163.out (fun _ hk => trivial)⟩, ⟨by repeat (first | (with_reducible first | exact HI0.out | apply IsS68.alloc | apply IsS68.drewN | apply IsS68.drew | apply IsS68.set_1) | exact HI0.out)⟩, ⟨by repeat (first | (with_reducible first | exact HK.out | apply KeepBut.set_ | apply keep_drewN | apply keep_drew | apply keep_alloc) | exact HK.out)⟩, ⟨by repeat (first | (with_reducible first | exact HB.out | apply below_alloc | apply pw_below_drewN | apply below_drew1 | refine below_set ?_ (IsS68.ge HI0.out)) | exact HB.out)⟩⟩
    ·replace c10 := Bool.eq_false_iff.mpr c10
     subst c10
     have H1 : (spec_l92Groups.l0 k1 x3_1 t152 (wrap64 (x5_1 + 1)) s0_0 t160) = some (r1, r2) := by rw [if_neg (show ¬ (false = true) by decide)] at H; exact H
     clear H
     have H := H1
     clear H1
     have H' := Aside0.mk H
     clear H
     go_wp2_with (first | ((with_reducible refine gate_dst (N := 19) rfl ?_); refine Kd.R_lit Kd.string _ 9 ?hg (N := 19) ?hd (xs := ([(⟨#[97]⟩ : ByteArray), (⟨#[98, 101, 101]⟩ : ByteArray), (⟨#[99, 97, 116]⟩ : ByteArray), (⟨#[100, 111, 103]⟩ : ByteArray), (⟨#[101, 109, 117]⟩ : ByteArray), (⟨#[102, 111, 120]⟩ : ByteArray), (⟨#[103, 110, 117]⟩ : ByteArray), (⟨#[104, 101, 110]⟩ : ByteArray)] : List ByteArray)) (inner := [.string (⟨#[97]⟩ : ByteArray), .string (⟨#[98, 101, 101]⟩ : ByteArray), .string (⟨#[99, 97, 116]⟩ : ByteArray), .string (⟨#[100, 111, 103]⟩ : ByteArray), .string (⟨#[101, 109, 117]⟩ : ByteArray), .string (⟨#[102, 111, 120]⟩ : ByteArray), .string (⟨#[103, 110, 117]⟩ : ByteArray), .string (⟨#[104, 101, 110]⟩ : ByteArray)]) (ok := fun _ => True) (okp := fun _ => True) ?hr ?hp (fun _ hk => hk) trivial (Below.refl _ _) (Nat.le_refl _) (by simp) ?_; (case hd => rfl); (case hg => rfl); (case hr => first | (go_simp; done) | (go_simp; rfl)); (case hp => exact (Reps.one (show Kd.M Kd.string _ _ _ (⟨#[97]⟩ : ByteArray) [.string (⟨#[97]⟩ : ByteArray)] from rfl) (Reps.one (show Kd.M Kd.string _ _ _ (⟨#[98, 101, 101]⟩ : ByteArray) [.string (⟨#[98, 101, 101]⟩ : ByteArray)] from rfl) (Reps.one (show Kd.M Kd.string _ _ _ (⟨#[99, 97, 116]⟩ : ByteArray) [.string (⟨#[99, 97, 116]⟩ : ByteArray)] from rfl) (Reps.one (show Kd.M Kd.string _ _ _ (⟨#[100, 111, 103]⟩ : ByteArray) [.string (⟨#[100, 111, 103]⟩ : ByteArray)] from rfl) (Reps.one (show Kd.M Kd.string _ _ _ (⟨#[101, 109, 117]⟩ : ByteArray) [.string (⟨#[101, 109, 117]⟩ : ByteArray)] from rfl) (Reps.one (show Kd.M Kd.string _ _ _ (⟨#[102, 111, 120]⟩ : ByteArray) [.string (⟨#[102, 111, 120]⟩ : ByteArray)] from rfl) (Reps.one (show Kd.M Kd.string _ _ _ (⟨#[103, 110, 117]⟩ : ByteArray) [.string (⟨#[103, 110, 117]⟩ : ByteArray)] from rfl) (Reps.one (show Kd.M Kd.string _ _ _ (⟨#[104, 101, 110]⟩ : ByteArray) [.string (⟨#[104, 101, 110]⟩ : ByteArray)] from rfl) (Reps.none _ _)))))))))); intro v155 w18 ho19 hb hg_ hnew_; clear hg_ hnew_; (first | rw [← Ny154.out] at ho19 | (simp only [Int.reduceToNat] at ho19; rw [← Ny154.out] at ho19)); have n0_ := Aside0.mk (Kd.R_below (by (with_reducible repeat (first | apply Kd.R_alloc | apply Kd.R_drewN | apply Kd.R_drew)); exact HO_3.out) hb); have n1_ := Aside0.mk (Kd.R_lower ho19 (keep_size (w := w) (g := g) (row := none) (by repeat (first | (with_reducible first | exact HK.out | apply KeepBut.set_ | apply keep_drewN | apply keep_drew | apply keep_alloc) | exact HK.out)))); have n2_ := Aside0.mk (IsS68.below (by repeat (first | (with_reducible first | exact HI0.out | apply IsS68.alloc | apply IsS68.drewN | apply IsS68.drew | apply IsS68.set_1) | exact HI0.out)) hb); have n3_ := Aside0.mk (KeepBut.trans (by repeat (first | (with_reducible first | exact HK.out | apply KeepBut.set_ | apply keep_drewN | apply keep_drew | apply keep_alloc) | exact HK.out)) (KeepBut.of_below hb g none) (.inl rfl)); have n4_ := Aside0.mk (below_step (by repeat (first | (with_reducible first | exact HB.out | apply below_alloc | apply pw_below_drewN | apply below_drew1 | refine below_set ?_ (IsS68.ge HI0.out)) | exact HB.out)) hb); clear HO_3; clear HI0; clear HK; clear HB; have HO_3 := n0_; have HO156 := n1_; have HI0 := n2_; have HK := n3_; have HB := n4_; clear n0_ n1_ n2_ n3_ n4_; clear hb ho19; obtain ⟨Ao20, co20, eo20⟩ := Kd.R_slice HO156.out; subst eo20) | ((with_reducible refine gate_callee (f := 32) rfl ?_); refine goesL_ (some 20) rfl rfl Try.func32 (by kernel_rfl) rfl #[.pointer (some ⟨g, 0, none⟩), .slice Ao20 y154.length co20] rfl (by (try simp only [List.map_toArray, List.map_cons, List.map_nil]); first | done | rfl | (simp only [List.length_drop, List.length_take]; rfl)) ?_; (with_reducible refine (spec_l6Rd_of.calls k1 g s0_0 x1001_1 _ _ y154 t157 t158 w0 _ ?side1 ?side2 ?side3 ?side4 ?side5 A7.out).mono ?_); (case side1 => repeat (first | (with_reducible first | exact HI0.out | apply IsS68.alloc | apply IsS68.drewN | apply IsS68.drew | apply IsS68.set_1) | exact HI0.out)); (case side2 => repeat (first | (with_reducible first | exact HB.out | apply below_alloc | apply pw_below_drewN | apply below_drew1 | refine below_set ?_ (IsS68.ge HI0.out)) | exact HB.out)); (case side3 => repeat (first | exact (Kd.R_reads' HO156.out).2.2 | (with_reducible refine Kd.C_alloc ?_ _) | (with_reducible refine Kd.C_drewN ?_ _) | (with_reducible refine Kd.C_drew ?_))); (case side4 => exact (Kd.R_reads' HO156.out).2.1); (case side5 => exact far_slice (IsS68.own_ne HI0.out HO156.out (by decide))); rintro e w21 ⟨rfl, hi, hb, hk⟩; refine ⟨_, rfl, ?_⟩; have n0_ := Aside0.mk (Kd.R_mono (Kd.R_keep (IsS68.apart (show IsS68 w0 _ g s0_0 x1001_1 from by repeat (first | (with_reducible first | exact HI0.out | apply IsS68.alloc | apply IsS68.drewN | apply IsS68.drew | apply IsS68.set_1) | exact HI0.out)) (by (with_reducible repeat (first | apply Kd.R_alloc | apply Kd.R_drewN | apply Kd.R_drew)); exact HO_3.out) (by decide)) hk (fun _ h => h.2)) (fun _ h => h.1)); have n1_ := Aside0.mk (Kd.R_mono (Kd.R_keep (IsS68.apart (show IsS68 w0 _ g s0_0 x1001_1 from by repeat (first | (with_reducible first | exact HI0.out | apply IsS68.alloc | apply IsS68.drewN | apply IsS68.drew | apply IsS68.set_1) | exact HI0.out)) (by (with_reducible repeat (first | apply Kd.R_alloc | apply Kd.R_drewN | apply Kd.R_drew)); exact HO156.out) (by decide)) hk (fun _ h => h.2)) (fun _ h => h.1)); have n2_ := Aside0.mk (KeepBut.trans (by repeat (first | (with_reducible first | exact HK.out | apply KeepBut.set_ | apply keep_drewN | apply keep_drew | apply keep_alloc) | exact HK.out)) hk (.inl rfl)); have n3_ := Aside0.mk (hb); have n4_ := Aside0.mk (hi); clear HO_3; clear HO156; clear HK; clear HB; clear HI0; have HO_3 := n0_; have HO156 := n1_; have HK := n2_; have HB := n3_; have HI0 := n4_; clear n0_ n1_ n2_ n3_ n4_; (try clear hb); (try clear hb2); (try clear hk); (try clear hi)) | ((with_reducible refine gate_callee (f := 18) rfl ?_); refine goesL_ (some 22) rfl rfl Try.func18 (by kernel_rfl) rfl #[.pointer (some ⟨g, 0, none⟩), .int .i64 20] rfl (by (try simp only [List.map_toArray, List.map_cons, List.map_nil]); first | done | rfl | (simp only [List.length_drop, List.length_take]; rfl)) ?_; (with_reducible refine (spec_l6Rd_pick.calls k1 g s0_0 t158 20 t159 t160 w0 _ ?side1 ?side2 A8.out).mono ?_); (case side1 => repeat (first | (with_reducible first | exact HI0.out | apply IsS68.alloc | apply IsS68.drewN | apply IsS68.drew | apply IsS68.set_1) | exact HI0.out)); (case side2 => repeat (first | (with_reducible first | exact HB.out | apply below_alloc | apply pw_below_drewN | apply below_drew1 | refine below_set ?_ (IsS68.ge HI0.out)) | exact HB.out)); rintro e w22 ⟨rfl, hi, hb, hk⟩; refine ⟨_, rfl, ?_⟩; have n0_ := Aside0.mk (Kd.R_mono (Kd.R_keep (IsS68.apart (show IsS68 w0 _ g s0_0 t158 from by repeat (first | (with_reducible first | exact HI0.out | apply IsS68.alloc | apply IsS68.drewN | apply IsS68.drew | apply IsS68.set_1) | exact HI0.out)) (by (with_reducible repeat (first | apply Kd.R_alloc | apply Kd.R_drewN | apply Kd.R_drew)); exact HO_3.out) (by decide)) hk (fun _ h => h.2)) (fun _ h => h.1)); have n1_ := Aside0.mk (Kd.R_mono (Kd.R_keep (IsS68.apart (show IsS68 w0 _ g s0_0 t158 from by repeat (first | (with_reducible first | exact HI0.out | apply IsS68.alloc | apply IsS68.drewN | apply IsS68.drew | apply IsS68.set_1) | exact HI0.out)) (by (with_reducible repeat (first | apply Kd.R_alloc | apply Kd.R_drewN | apply Kd.R_drew)); exact HO156.out) (by decide)) hk (fun _ h => h.2)) (fun _ h => h.1)); have n2_ := Aside0.mk (KeepBut.trans (by repeat (first | (with_reducible first | exact HK.out | apply KeepBut.set_ | apply keep_drewN | apply keep_drew | apply keep_alloc) | exact HK.out)) hk (.inl rfl)); have n3_ := Aside0.mk (hb); have n4_ := Aside0.mk (hi); clear HO_3; clear HO156; clear HK; clear HB; clear HI0; have HO_3 := n0_; have HO156 := n1_; have HK := n2_; have HB := n3_; have HI0 := n4_; clear n0_ n1_ n2_ n3_ n4_; (try clear hb); (try clear hb2); (try clear hk); (try clear hi); obtain ⟨Ao23, co23, eo23⟩ := Kd.R_slice HO_3.out; subst eo23) | ((with_reducible refine gate_callee (f := 31) rfl ?_); refine goesL_ (some 24) rfl rfl Try.func31 (by kernel_rfl) rfl #[.slice Ao23 x3_1.length co23, .agg #[.string t157, .int .i64 t159]] rfl (by (try simp only [List.map_toArray, List.map_cons, List.map_nil]); first | done | rfl | (simp only [List.length_drop, List.length_take]; rfl)) ?_; (with_reducible refine (spec_GroupsPut.calls k1 _ _ x3_1 t157 t159 t161 false _ ?side1 ?side2 A9.out).mono ?_); (case side1 => repeat (first | exact (Kd.R_reads' HO_3.out).2.2 | (with_reducible refine Kd.C_alloc ?_ _) | (with_reducible refine Kd.C_drewN ?_ _) | (with_reducible refine Kd.C_drew ?_))); (case side2 => exact (Kd.R_reads' HO_3.out).2.1); rintro e w24 ⟨v162, rfl, ho0, hb⟩; have u_v162 : ∀ (a_ : Addr) (m_ : Mode) (W_ : World), (store a_ v162 m_).run Try.prog W_ = stored Try.prog W_ a_ v162 m_ := fun a_ m_ W_ => run_store _ W_ a_ _ m_ (by first | (obtain ⟨_, _, e_⟩ := Kd.R_slice ho0; rw [e_]; rfl) | (obtain ⟨_, _, e_⟩ := Kd.S_slice ho0; rw [e_]; rfl) | (obtain ⟨_, _, e_, _⟩ := Kd.Q_slice ho0; rw [e_]; rfl) | (obtain ⟨_, _, e_⟩ := Kd.N_slice ho0; rw [e_]; rfl) | (obtain ⟨_, _, e_⟩ := Kd.V_slice ho0; rw [e_]; rfl)); refine ⟨_, rfl, ?_⟩; have n0_ := Aside0.mk (Kd.R_elder' (by (with_reducible repeat (first | apply Kd.R_alloc | apply Kd.R_drewN | apply Kd.R_drew)); exact HO_3.out) (Kd.R_base ho0) hb); have n1_ := Aside0.mk (Kd.R_below (by (with_reducible repeat (first | apply Kd.R_alloc | apply Kd.R_drewN | apply Kd.R_drew)); exact HO156.out) hb); have n2_ := Aside0.mk (Kd.R_lower (Kd.R_new' ho0 (Kd.R_lt (by (with_reducible repeat (first | apply Kd.R_alloc | apply Kd.R_drewN | apply Kd.R_drew)); exact HO_3.out))) (keep_size (w := w) (g := g) (row := none) (by repeat (first | (with_reducible first | exact HK.out | apply KeepBut.set_ | apply keep_drewN | apply keep_drew | apply keep_alloc) | exact HK.out)))); have n3_ := Aside0.mk (IsS68.below (by repeat (first | (with_reducible first | exact HI0.out | apply IsS68.alloc | apply IsS68.drewN | apply IsS68.drew | apply IsS68.set_1) | exact HI0.out)) hb); have n4_ := Aside0.mk (KeepBut.trans (by repeat (first | (with_reducible first | exact HK.out | apply KeepBut.set_ | apply keep_drewN | apply keep_drew | apply keep_alloc) | exact HK.out)) (KeepBut.of_below hb g none) (.inl rfl)); have n5_ := Aside0.mk (below_step (by repeat (first | (with_reducible first | exact HB.out | apply below_alloc | apply pw_below_drewN | apply below_drew1 | refine below_set ?_ (IsS68.ge HI0.out)) | exact HB.out)) hb); clear HO_3; clear HO156; clear HI0; clear HK; clear HB; have HO_3 := n0_; have HO156 := n1_; have HO163 := n2_; have HI0 := n3_; have HK := n4_; have HB := n5_; clear n0_ n1_ n2_ n3_ n4_ n5_; (try clear hb); (try clear hb2); (try clear hk); (try clear hi); (try clear ho0)))
     go_roundg k1
     case measure => have := HK1.out; omega
     case rel => exact ⟨(x3_1), (wrap64 (x5_1 + 1)), (t160), (by first | rfl | (simp; done) | (simp [*]; done)), H', ⟨by have := HK1.out; omega⟩, ⟨by (with_reducible repeat (first | apply Kd.R_alloc | apply Kd.R_drewN | apply Kd.R_drew)); exact Kd.R_mono HO_3.out (fun _ hk => trivial)⟩, ⟨by repeat (first | (with_reducible first | exact HI0.out | apply IsS68.alloc | apply IsS68.drewN | apply IsS68.drew | apply IsS68.set_1) | exact HI0.out)⟩, ⟨by repeat (first | (with_reducible first | exact HK.out | apply KeepBut.set_ | apply keep_drewN | apply keep_drew | apply keep_alloc) | exact HK.out)⟩, ⟨by repeat (first | (with_reducible first | exact HB.out | apply below_alloc | apply pw_below_drewN | apply below_drew1 | refine below_set ?_ (IsS68.ge HI0.out)) | exact HB.out)⟩⟩
   ·rw [if_neg c6] at H
    have c6b0 : decide (x5_1 < t152) = false := decide_eq_false c6
    clear c6
    have HC25 := Aside0.mk H
    clear H
    go_upto_region 9 with (fail)
    go_cut [36] (fun v36 wc => ∃ (kq : Nat) (x36_24 : Bool) (x1001_24 : Int), v36 = .bool x36_24 ∧ Aside0 (spec_l92Groups.j1 kq x3_1 x36_24 s0_0 x1001_24 = some (r1, r2)) ∧ Aside0 (kq ≤ k1) ∧ Aside0 (Kd.R k31 31 wc w.heap.size (fun _ => True) u3 x3_1) ∧ Aside0 (IsS68 w0 wc g s0_0 x1001_24) ∧ Aside0 (KeepBut w wc g none) ∧ Aside0 (Below w0.heap.size w0 wc))
    case first =>
     have H := HC25.out
     clear HC25
     by_cases c26 : (x3_1.length : Int) > 0
     ·rw [if_pos c26] at H
      have c26b0 : decide (0 < (x3_1.length : Int)) = true := decide_eq_true c26
      have c26b1 : decide (0 < x3_1.length) = true := decide_eq_true (by omega)
      clear c26
      (first | rw [c26b0] | (simp only [i64_w, i32_w]; rw [c26b0]) | skip)
      replace H := Option.bind_eq_some_iff.mp H
      obtain ⟨⟨t165, t166⟩, A270, H⟩ := H
      replace H : (spec_l92Groups.j1 k1 x3_1 (t165 == 0) s0_0 t166) = some (r1, r2) := H
      have A27 := Aside0.mk A270
      clear A270
      have H' := Aside0.mk H
      clear H
      obtain ⟨Ao28, co28, eo28⟩ := Kd.R_slice HO_3.out
      subst eo28
      go_wp2_with (first | (go_at_call 18; (with_reducible refine (spec_l6Rd_pick.calls k1 g s0_0 x1001_1 24 t165 t166 w0 _ ?side1 ?side2 A27.out).mono ?_); (case side1 => repeat (first | (with_reducible first | exact HI0.out | apply IsS68.alloc | apply IsS68.drewN | apply IsS68.drew | apply IsS68.set_1) | exact HI0.out)); (case side2 => repeat (first | (with_reducible first | exact HB.out | apply below_alloc | apply pw_below_drewN | apply below_drew1 | refine below_set ?_ (IsS68.ge HI0.out)) | exact HB.out)); rintro e w29 ⟨rfl, hi, hb, hk⟩; have n0_ := Aside0.mk (Kd.R_mono (Kd.R_keep (IsS68.apart (show IsS68 w0 _ g s0_0 x1001_1 from by repeat (first | (with_reducible first | exact HI0.out | apply IsS68.alloc | apply IsS68.drewN | apply IsS68.drew | apply IsS68.set_1) | exact HI0.out)) (by (with_reducible repeat (first | apply Kd.R_alloc | apply Kd.R_drewN | apply Kd.R_drew)); exact HO_3.out) (by decide)) hk (fun _ h => h.2)) (fun _ h => h.1)); have n1_ := Aside0.mk (KeepBut.trans (by repeat (first | (with_reducible first | exact HK.out | apply KeepBut.set_ | apply keep_drewN | apply keep_drew | apply keep_alloc) | exact HK.out)) hk (.inl rfl)); have n2_ := Aside0.mk (hb); have n3_ := Aside0.mk (hi); clear HO_3; clear HK; clear HB; clear HI0; have HO_3 := n0_; have HK := n1_; have HB := n2_; have HI0 := n3_; clear n0_ n1_ n2_ n3_; (try clear hb); (try clear hb2); (try clear hk); (try clear hi)))
      go_meet
      case rel => exact ⟨_, ((t165 == 0)), (t166), (by first | rfl | (simp; done) | (simp [*]; done)), H', ⟨by have := HK1.out; first | omega | exact Nat.le_refl _⟩, ⟨by (with_reducible repeat (first | apply Kd.R_alloc | apply Kd.R_drewN | apply Kd.R_drew)); exact HO_3.out⟩, ⟨by repeat (first | (with_reducible first | exact HI0.out | apply IsS68.alloc | apply IsS68.drewN | apply IsS68.drew | apply IsS68.set_1) | exact HI0.out)⟩, ⟨by repeat (first | (with_reducible first | exact HK.out | apply KeepBut.set_ | apply keep_drewN | apply keep_drew | apply keep_alloc) | exact HK.out)⟩, ⟨by repeat (first | (with_reducible first | exact HB.out | apply below_alloc | apply pw_below_drewN | apply below_drew1 | refine below_set ?_ (IsS68.ge HI0.out)) | exact HB.out)⟩⟩
     ·rw [if_neg c26] at H
      have c26b0 : decide (0 < (x3_1.length : Int)) = false := decide_eq_false c26
      have c26b1 : decide (0 < x3_1.length) = false := decide_eq_false (by omega)
      clear c26
      (first | rw [c26b0] | (simp only [i64_w, i32_w]; rw [c26b0]) | skip)
      have H' := Aside0.mk H
      clear H
      obtain ⟨Ao30, co30, eo30⟩ := Kd.R_slice HO_3.out
      subst eo30
      go_wp2
      go_meet
      case rel => exact ⟨_, (false), (x1001_1), (by first | rfl | (simp; done) | (simp [*]; done)), H', ⟨by have := HK1.out; first | omega | exact Nat.le_refl _⟩, ⟨by (with_reducible repeat (first | apply Kd.R_alloc | apply Kd.R_drewN | apply Kd.R_drew)); exact HO_3.out⟩, ⟨by repeat (first | (with_reducible first | exact HI0.out | apply IsS68.alloc | apply IsS68.drewN | apply IsS68.drew | apply IsS68.set_1) | exact HI0.out)⟩, ⟨by repeat (first | (with_reducible first | exact HK.out | apply KeepBut.set_ | apply keep_drewN | apply keep_drew | apply keep_alloc) | exact HK.out)⟩, ⟨by repeat (first | (with_reducible first | exact HB.out | apply below_alloc | apply pw_below_drewN | apply below_drew1 | refine below_set ?_ (IsS68.ge HI0.out)) | exact HB.out)⟩⟩
    case rest =>
     clear HC25
     try clear c1
     try clear c2
     try clear p2
     try clear c3
     try clear c6
     try clear c6b0
     try clear p6
     try clear c10
     try clear c16
     try clear c18
     try clear c26
     try clear c26b0
     try clear c26b1
     try clear p2
     obtain ⟨kq, x36_24, x1001_24, rfl, HA, HJ24, HO_3, HI0, HK, HB⟩ := hcut
     cases kq with
     | zero => exact absurd HA.out (by simp [spec_l92Groups.j1])
     | succ kj24 =>
      have H := HA.out
      clear HA
      simp only [spec_l92Groups.j1] at H
      by_cases c31 : x36_24 = true
      ·subst c31
       have H1 : ((spec_l6Rd_pick.f kj24 s0_0 x1001_24 (x3_1.length : Int)).bind fun bt167 => ((spec_l6Rd_of.f kj24 s0_0 bt167.2 (([(⟨#[]⟩ : ByteArray), (⟨#[90]⟩ : ByteArray), (⟨#[97, 98, 99, 100, 101, 102, 103]⟩ : ByteArray)] : List ByteArray))).bind fun bt172 => (if 0 ≤ bt167.1 then (if bt167.1 < (x3_1.length : Int) then (some ((x3_1.set (bt167.1 : Int).toNat (⟨bt172.1, (rd_T31 x3_1 bt167.1).f1⟩ : S31)), bt172.2)) else (none)) else (none)))) = some (r1, r2) := by rw [if_pos rfl] at H; exact H
       clear H
       have H := H1
       clear H1
       replace H := Option.bind_eq_some_iff.mp H
       obtain ⟨⟨t167, t168⟩, A320, H⟩ := H
       replace H : ((spec_l6Rd_of.f kj24 s0_0 t168 (([(⟨#[]⟩ : ByteArray), (⟨#[90]⟩ : ByteArray), (⟨#[97, 98, 99, 100, 101, 102, 103]⟩ : ByteArray)] : List ByteArray))).bind fun bt172 => (if 0 ≤ t167 then (if t167 < (x3_1.length : Int) then (some ((x3_1.set (t167 : Int).toNat (⟨bt172.1, (rd_T31 x3_1 t167).f1⟩ : S31)), bt172.2)) else (none)) else (none))) = some (r1, r2) := H
       have A32 := Aside0.mk A320
       clear A320
       obtain ⟨y169, hy169⟩ : ∃ y_ : List ByteArray, y_ = (([(⟨#[]⟩ : ByteArray), (⟨#[90]⟩ : ByteArray), (⟨#[97, 98, 99, 100, 101, 102, 103]⟩ : ByteArray)] : List ByteArray)) := ⟨_, rfl⟩
       replace H : ((spec_l6Rd_of.f kj24 s0_0 t168 y169).bind fun bt172 => (if 0 ≤ t167 then (if t167 < (x3_1.length : Int) then (some ((x3_1.set (t167 : Int).toNat (⟨bt172.1, (rd_T31 x3_1 t167).f1⟩ : S31)), bt172.2)) else (none)) else (none))) = some (r1, r2) := by first | (rw [hy169]; with_reducible exact H) | (have H2_ := (Option.bind_some _ _).symm.trans H; rw [hy169]; with_reducible exact H2_) | (have H2_ := (Option.bind_some _ _).symm.trans H; with_reducible exact H2_) | with_reducible exact H | (rw [hy169]; exact H) | exact H
       have Ny169 := Aside0.mk hy169
       clear hy169
       replace H := Option.bind_eq_some_iff.mp H
       obtain ⟨⟨t172, t173⟩, A330, H⟩ := H
       replace H : (if 0 ≤ t167 then (if t167 < (x3_1.length : Int) then (some ((x3_1.set (t167 : Int).toNat (⟨t172, (rd_T31 x3_1 t167).f1⟩ : S31)), t173)) else (none)) else (none)) = some (r1, r2) := H
       have A33 := Aside0.mk A330
       clear A330
       by_cases c34 : 0 ≤ t167
       ·rw [if_pos c34] at H
        have c34b0 : decide (0 ≤ t167) = true := decide_eq_true c34
        clear c34
        by_cases c35 : t167 < (x3_1.length : Int)
        ·rw [if_pos c35] at H
         have c35b0 : decide (t167 < (x3_1.length : Int)) = true := decide_eq_true c35
         clear c35
         obtain ⟨y174, hy174⟩ : ∃ y_ : List (S31), y_ = (x3_1.set (t167 : Int).toNat (⟨t172, (rd_T31 x3_1 t167).f1⟩ : S31)) := ⟨_, rfl⟩
         replace H : (some (y174, t173)) = some (r1, r2) := by first | (rw [hy174]; with_reducible exact H) | (have H2_ := (Option.bind_some _ _).symm.trans H; rw [hy174]; with_reducible exact H2_) | (have H2_ := (Option.bind_some _ _).symm.trans H; with_reducible exact H2_) | with_reducible exact H | (rw [hy174]; exact H) | exact H
         have Ny174 := Aside0.mk hy174
         clear hy174
         simp only [Option.some.injEq, Prod.mk.injEq] at H
         obtain ⟨rfl, rfl⟩ := H
         obtain ⟨Ao37, co37, eo37⟩ := Kd.R_slice HO_3.out
         subst eo37
         go_wp2_with (first | ((with_reducible refine gate_callee (f := 18) rfl ?_); refine goesL_ (some 41) rfl rfl Try.func18 (by kernel_rfl) rfl #[.pointer (some ⟨g, 0, none⟩), .int .i64 (x3_1.length : Int)] rfl (by (try simp only [List.map_toArray, List.map_cons, List.map_nil]); first | done | rfl | (simp only [List.length_drop, List.length_take]; rfl)) ?_; (with_reducible refine (spec_l6Rd_pick.calls kj24 g s0_0 x1001_24 (x3_1.length : Int) t167 t168 w0 _ ?side1 ?side2 A32.out).mono ?_); (case side1 => repeat (first | (with_reducible first | exact HI0.out | apply IsS68.alloc | apply IsS68.drewN | apply IsS68.drew | apply IsS68.set_1) | exact HI0.out)); (case side2 => repeat (first | (with_reducible first | exact HB.out | apply below_alloc | apply pw_below_drewN | apply below_drew1 | refine below_set ?_ (IsS68.ge HI0.out)) | exact HB.out)); rintro e w38 ⟨rfl, hi, hb, hk⟩; refine ⟨_, rfl, ?_⟩; have n0_ := Aside0.mk (Kd.R_mono (Kd.R_keep (IsS68.apart (show IsS68 w0 _ g s0_0 x1001_24 from by repeat (first | (with_reducible first | exact HI0.out | apply IsS68.alloc | apply IsS68.drewN | apply IsS68.drew | apply IsS68.set_1) | exact HI0.out)) (by (with_reducible repeat (first | apply Kd.R_alloc | apply Kd.R_drewN | apply Kd.R_drew)); exact HO_3.out) (by decide)) hk (fun _ h => h.2)) (fun _ h => h.1)); have n1_ := Aside0.mk (KeepBut.trans (by repeat (first | (with_reducible first | exact HK.out | apply KeepBut.set_ | apply keep_drewN | apply keep_drew | apply keep_alloc) | exact HK.out)) hk (.inl rfl)); have n2_ := Aside0.mk (hb); have n3_ := Aside0.mk (hi); clear HO_3; clear HK; clear HB; clear HI0; have HO_3 := n0_; have HK := n1_; have HB := n2_; have HI0 := n3_; clear n0_ n1_ n2_ n3_; (try clear hb); (try clear hb2); (try clear hk); (try clear hi)) | ((with_reducible refine gate_dst (N := 43) rfl ?_); refine Kd.R_lit Kd.string _ 9 ?hg (N := 43) ?hd (xs := ([(⟨#[]⟩ : ByteArray), (⟨#[90]⟩ : ByteArray), (⟨#[97, 98, 99, 100, 101, 102, 103]⟩ : ByteArray)] : List ByteArray)) (inner := [.string (⟨#[]⟩ : ByteArray), .string (⟨#[90]⟩ : ByteArray), .string (⟨#[97, 98, 99, 100, 101, 102, 103]⟩ : ByteArray)]) (ok := fun _ => True) (okp := fun _ => True) ?hr ?hp (fun _ hk => hk) trivial (Below.refl _ _) (Nat.le_refl _) (by simp) ?_; (case hd => rfl); (case hg => rfl); (case hr => first | (go_simp; done) | (go_simp; rfl)); (case hp => exact (Reps.one (show Kd.M Kd.string _ _ _ (⟨#[]⟩ : ByteArray) [.string (⟨#[]⟩ : ByteArray)] from rfl) (Reps.one (show Kd.M Kd.string _ _ _ (⟨#[90]⟩ : ByteArray) [.string (⟨#[90]⟩ : ByteArray)] from rfl) (Reps.one (show Kd.M Kd.string _ _ _ (⟨#[97, 98, 99, 100, 101, 102, 103]⟩ : ByteArray) [.string (⟨#[97, 98, 99, 100, 101, 102, 103]⟩ : ByteArray)] from rfl) (Reps.none _ _))))); intro v170 w39 ho40 hb hg_ hnew_; clear hg_ hnew_; (first | rw [← Ny169.out] at ho40 | (simp only [Int.reduceToNat] at ho40; rw [← Ny169.out] at ho40)); have n0_ := Aside0.mk (Kd.R_below (by (with_reducible repeat (first | apply Kd.R_alloc | apply Kd.R_drewN | apply Kd.R_drew)); exact HO_3.out) hb); have n1_ := Aside0.mk (Kd.R_lower ho40 (keep_size (w := w) (g := g) (row := none) (by repeat (first | (with_reducible first | exact HK.out | apply KeepBut.set_ | apply keep_drewN | apply keep_drew | apply keep_alloc) | exact HK.out)))); have n2_ := Aside0.mk (IsS68.below (by repeat (first | (with_reducible first | exact HI0.out | apply IsS68.alloc | apply IsS68.drewN | apply IsS68.drew | apply IsS68.set_1) | exact HI0.out)) hb); have n3_ := Aside0.mk (KeepBut.trans (by repeat (first | (with_reducible first | exact HK.out | apply KeepBut.set_ | apply keep_drewN | apply keep_drew | apply keep_alloc) | exact HK.out)) (KeepBut.of_below hb g none) (.inl rfl)); have n4_ := Aside0.mk (below_step (by repeat (first | (with_reducible first | exact HB.out | apply below_alloc | apply pw_below_drewN | apply below_drew1 | refine below_set ?_ (IsS68.ge HI0.out)) | exact HB.out)) hb); clear HO_3; clear HI0; clear HK; clear HB; have HO_3 := n0_; have HO171 := n1_; have HI0 := n2_; have HK := n3_; have HB := n4_; clear n0_ n1_ n2_ n3_ n4_; clear hb ho40; obtain ⟨Ao41, co41, eo41⟩ := Kd.R_slice HO171.out; subst eo41) | ((with_reducible refine gate_callee (f := 32) rfl ?_); refine goesL_ (some 44) rfl rfl Try.func32 (by kernel_rfl) rfl #[.pointer (some ⟨g, 0, none⟩), .slice Ao41 y169.length co41] rfl (by (try simp only [List.map_toArray, List.map_cons, List.map_nil]); first | done | rfl | (simp only [List.length_drop, List.length_take]; rfl)) ?_; (with_reducible refine (spec_l6Rd_of.calls kj24 g s0_0 t168 _ _ y169 t172 t173 w0 _ ?side1 ?side2 ?side3 ?side4 ?side5 A33.out).mono ?_); (case side1 => repeat (first | (with_reducible first | exact HI0.out | apply IsS68.alloc | apply IsS68.drewN | apply IsS68.drew | apply IsS68.set_1) | exact HI0.out)); (case side2 => repeat (first | (with_reducible first | exact HB.out | apply below_alloc | apply pw_below_drewN | apply below_drew1 | refine below_set ?_ (IsS68.ge HI0.out)) | exact HB.out)); (case side3 => repeat (first | exact (Kd.R_reads' HO171.out).2.2 | (with_reducible refine Kd.C_alloc ?_ _) | (with_reducible refine Kd.C_drewN ?_ _) | (with_reducible refine Kd.C_drew ?_))); (case side4 => exact (Kd.R_reads' HO171.out).2.1); (case side5 => exact far_slice (IsS68.own_ne HI0.out HO171.out (by decide))); rintro e w42 ⟨rfl, hi, hb, hk⟩; refine ⟨_, rfl, ?_⟩; have n0_ := Aside0.mk (Kd.R_mono (Kd.R_keep (IsS68.apart (show IsS68 w0 _ g s0_0 t168 from by repeat (first | (with_reducible first | exact HI0.out | apply IsS68.alloc | apply IsS68.drewN | apply IsS68.drew | apply IsS68.set_1) | exact HI0.out)) (by (with_reducible repeat (first | apply Kd.R_alloc | apply Kd.R_drewN | apply Kd.R_drew)); exact HO_3.out) (by decide)) hk (fun _ h => h.2)) (fun _ h => h.1)); have n1_ := Aside0.mk (Kd.R_mono (Kd.R_keep (IsS68.apart (show IsS68 w0 _ g s0_0 t168 from by repeat (first | (with_reducible first | exact HI0.out | apply IsS68.alloc | apply IsS68.drewN | apply IsS68.drew | apply IsS68.set_1) | exact HI0.out)) (by (with_reducible repeat (first | apply Kd.R_alloc | apply Kd.R_drewN | apply Kd.R_drew)); exact HO171.out) (by decide)) hk (fun _ h => h.2)) (fun _ h => h.1)); have n2_ := Aside0.mk (KeepBut.trans (by repeat (first | (with_reducible first | exact HK.out | apply KeepBut.set_ | apply keep_drewN | apply keep_drew | apply keep_alloc) | exact HK.out)) hk (.inl rfl)); have n3_ := Aside0.mk (hb); have n4_ := Aside0.mk (hi); clear HO_3; clear HO171; clear HK; clear HB; clear HI0; have HO_3 := n0_; have HO171 := n1_; have HK := n2_; have HB := n3_; have HI0 := n4_; clear n0_ n1_ n2_ n3_ n4_; (try clear hb); (try clear hb2); (try clear hk); (try clear hi); have p36 : 0 ≤ (t167 : Int) := of_decide_eq_true (by first | (with_reducible assumption) | assumption); have q36 : (t167 : Int) < ((x3_1.length : Int) : Int) := of_decide_eq_true (by first | (with_reducible assumption) | assumption); obtain ⟨go36, co36, eo36, gb36, gl36, cl36, HG36⟩ := Kd.R_form HO_3.out (by omega); (first | cases eo36 | (injection eo36 with ea_ en_ ec_; (first | subst ea_ | (injection ea_ with ea_; subst ea_)); subst ec_; clear en_)); have GB36 := Aside0.mk gb36; have GG36 := Aside0.mk HG36; clear gb36 gl36 HG36; obtain ⟨ce36, hcl36, hM36, hcc36, hfr36⟩ := Kd.R_elem HO_3.out z31 (t167 : Int) p36 q36; obtain rfl := k31_openM hM36; have hx36_0 : w42.cell? ⟨go36, (t167 : Int).toNat * 2, none⟩ = some (.string ((rd_T31 x3_1 t167).f0)) := hcc36 0 _ rfl; have hx36_1 : w42.cell? ⟨go36, (t167 : Int).toNat * 2 + 1, none⟩ = some (.int .i64 ((rd_T31 x3_1 t167).f1)) := hcc36 1 _ rfl; have hf36_0 : w42.frozen? ⟨go36, (t167 : Int).toNat * 2, none⟩ = false := hfr36 0; have hf36_1 : w42.frozen? ⟨go36, (t167 : Int).toNat * 2 + 1, none⟩ = false := hfr36 1; clear hcl36 hcc36 hfr36 hM36; replace p36 := eq_true p36; replace q36 := eq_true q36; have HX43 := Aside0.mk (show Kd.R k31 31 w42 w.heap.size (fun _ => True) (.slice (some ⟨go36, 0, none⟩) x3_1.length co37) x3_1 from (by (with_reducible repeat (first | apply Kd.R_alloc | apply Kd.R_drewN | apply Kd.R_drew)); exact HO_3.out)); obtain ⟨ce43, hcl43, hM43, hcc43, hfr43⟩ := Kd.R_elem HX43.out z31 (t167 : Int) (of_decide_eq_true (by first | (with_reducible assumption) | assumption)) (by have h_ : (t167 : Int) < ((x3_1.length : Int) : Int) := of_decide_eq_true (by first | (with_reducible assumption) | assumption); first | exact h_ | (have e_ := (Kd.R_reads' HO_3.out).1; omega) | simpa using h_); obtain rfl := k31_openM hM43; have HP43 := Kd.R_seg HX43.out (t167 : Int) (of_decide_eq_true (by first | (with_reducible assumption) | assumption)) (by have h_ : (t167 : Int) < ((x3_1.length : Int) : Int) := of_decide_eq_true (by first | (with_reducible assumption) | assumption); first | exact h_ | (have e_ := (Kd.R_reads' HO_3.out).1; omega) | simpa using h_) (seg := [.string t172]) (j := 0) hcl43 hcc43 (show 1 ≤ 2 from by decide) (x' := (⟨t172, (rd_T31 x3_1 t167).f1⟩ : S31)) (k31_mkM _ _ _ (⟨t172, (rd_T31 x3_1 t167).f1⟩ : S31) ) (fun _ hk => hk); have hx43_0 := hcc43 0 _ rfl; (try simp only [show (k31).sz = 2 from rfl, Nat.mul_one, Nat.add_zero] at hx43_0); have hf43_0 := hfr43 0; (try simp only [show (k31).sz = 2 from rfl, Nat.mul_one, Nat.add_zero] at hf43_0); clear hcl43 hcc43 hfr43 hM43) | ((with_reducible refine gate_store (t := 9) (p := 46) rfl ?_); refine store_event (t := 9) (p := 46) (v := ?vo_w44) (w1 := (w42.setCell ⟨go36, (t167 : Int).toNat * 2, none⟩ (.string t172))) ?hg ?ho ?hn ?hr ?_; (case ho => rfl); (case hg => rfl); (case hn => rfl); (case hr => first | (go_simp; done) | (go_simp; rfl)); intro w44 hw; have hg : w42.grownBy w44 (some go36) := (by rw [hw]; exact HP43.2); have hp_ : Kd.R k31 31 w44 w.heap.size (fun _ => True) (.slice (some ⟨go36, 0, none⟩) x3_1.length co37) y174 := (by rw [hw, Ny174.out]; exact HP43.1); clear HP43; have n0_ := Aside0.mk (hp_); have n1_ := Aside0.mk (IsS68.grown (by repeat (first | (with_reducible first | exact HI0.out | apply IsS68.alloc | apply IsS68.drewN | apply IsS68.drew | apply IsS68.set_1) | exact HI0.out)) hg (IsS68.own_ne HI0.out HO_3.out (by decide))); have n2_ := Aside0.mk (Kd.R_over' (v := (.slice (some ⟨go36, 0, none⟩) x3_1.length co37)) (by (with_reducible repeat (first | apply Kd.R_alloc | apply Kd.R_drewN | apply Kd.R_drew)); exact HO171.out) (Kd.R_typed HO_3.out) (by decide) hg); have n3_ := Aside0.mk ((by rw [hw]; exact below_set (HB.out) (Nat.le_trans HL.out GB36.out) : Below w0.heap.size w0 w44)); have n4_ := Aside0.mk (KeepBut.trans (by repeat (first | (with_reducible first | exact HK.out | apply KeepBut.set_ | apply keep_drewN | apply keep_drew | apply keep_alloc) | exact HK.out)) (KeepBut.of_grown hg g) (Kd.R_base2 HO_3.out)); clear HO_3; clear HI0; clear HO171; clear HB; clear HK; have HO_3 := n0_; have HI0 := n1_; have HO171 := n2_; have HB := n3_; have HK := n4_; clear n0_ n1_ n2_ n3_ n4_; clear hg hw hp_))
         go_ret
         exact ⟨_, by first | rfl | (simp [errW_none, errW_some] <;> rfl) | (simp [*, errW_none, errW_some] <;> rfl), by (with_reducible repeat (first | apply Kd.R_alloc | apply Kd.R_drewN | apply Kd.R_drew)); exact HO_3.out, by repeat (first | (with_reducible first | exact HI0.out | apply IsS68.alloc | apply IsS68.drewN | apply IsS68.drew | apply IsS68.set_1) | exact HI0.out), by repeat (first | (with_reducible first | exact HB.out | apply below_alloc | apply pw_below_drewN | apply below_drew1 | refine below_set ?_ (IsS68.ge HI0.out)) | exact HB.out), by repeat (first | (with_reducible first | exact HK.out | apply KeepBut.set_ | apply keep_drewN | apply keep_drew | apply keep_alloc) | exact HK.out)⟩
        ·rw [if_neg c35] at H
         exact absurd H (by simp)
       ·rw [if_neg c34] at H
        exact absurd H (by simp)
      ·replace c31 := Bool.eq_false_iff.mpr c31
       subst c31
       have H1 : (some (x3_1, x1001_24)) = some (r1, r2) := by rw [if_neg (show ¬ (false = true) by decide)] at H; exact H
       clear H
       have H := H1
       clear H1
       simp only [Option.some.injEq, Prod.mk.injEq] at H
       obtain ⟨rfl, rfl⟩ := H
       go_wp2
       go_ret
       exact ⟨_, by first | rfl | (simp [errW_none, errW_some] <;> rfl) | (simp [*, errW_none, errW_some] <;> rfl), by (with_reducible repeat (first | apply Kd.R_alloc | apply Kd.R_drewN | apply Kd.R_drew)); exact HO_3.out, by repeat (first | (with_reducible first | exact HI0.out | apply IsS68.alloc | apply IsS68.drewN | apply IsS68.drew | apply IsS68.set_1) | exact HI0.out), by repeat (first | (with_reducible first | exact HB.out | apply below_alloc | apply pw_below_drewN | apply below_drew1 | refine below_set ?_ (IsS68.ge HI0.out)) | exact HB.out), by repeat (first | (with_reducible first | exact HK.out | apply KeepBut.set_ | apply keep_drewN | apply keep_drew | apply keep_alloc) | exact HK.out)⟩

end Go.Proofs.Ytlkbjipndlmjgaa.G

namespace Go.Proofs.Ytlkbjipndlmjgaa.G
open Go.RowKit Go.Proofs.YtlkbjipndlmjgaaW.PrintWords Go.Proofs.YtlkbjipndlmjgaaW.PrintLast Go.Proofs.YtlkbjipndlmjgaaW.PrintMore
attribute [local go_sem] max2_int min2_int max_two min_two max_three min_three max_four min_four   -- for this text's walks alone
set_option linter.unusedVariables false
set_option linter.unusedSimpArgs false

def spec_l12Last.f (a0_0 : Bool) (a0_1 : Bool) (a0_2 : Int) (a0_3 : Int) (a0_4 : Int) (l0_5 : List (S34)) : Option (Int) := if 0 ≤ (wrap64 ((l0_5.length : Int) - 1)) then (if (wrap64 ((l0_5.length : Int) - 1)) < (l0_5.length : Int) then (some ((rd_T34 l0_5 (wrap64 ((l0_5.length : Int) - 1))).f0)) else (none)) else (none)
set_option maxHeartbeats 8000000 in
set_option maxRecDepth 100000 in
theorem spec_l12Last.calls (a0_0 : Bool) (a0_1 : Bool) (a0_2 : Int) (a0_3 : Int) (a0_4 : Int) (A0_5 : Option Addr) (c0_5 : Nat) (l0_5 : List (S34)) (r : Int) (w : World) (hr0_5 : Kd.C k34 w A0_5 l0_5.length l0_5) (hc0_5 : l0_5.length ≤ c0_5) (h : spec_l12Last.f a0_0 a0_1 a0_2 a0_3 a0_4 l0_5 = some r) :
  Calls Try.prog 42 #[.agg #[.bool a0_0, .bool a0_1, .int .i64 a0_2, .int .i64 a0_3, .int .i64 a0_4, .slice A0_5 l0_5.length c0_5]] w fun e w' => e = .returned (.int .i64 r) ∧ Below w.heap.size w w' := by
 have hu56 := Try.underlying56
 have HR0_5 := Aside0.mk hr0_5
 have HC0_5 := Aside0.mk hc0_5
 clear hr0_5 hc0_5
 have HB := Aside0.mk (Below.refl w.heap.size w)
 have H : (if 0 ≤ (wrap64 ((l0_5.length : Int) - 1)) then (if (wrap64 ((l0_5.length : Int) - 1)) < (l0_5.length : Int) then (some ((rd_T34 l0_5 (wrap64 ((l0_5.length : Int) - 1))).f0)) else (none)) else (none)) = some r := h
 clear h
 obtain ⟨ji2, hji2⟩ : ∃ j_ : Int, (wrap64 ((l0_5.length : Int) - 1)) = j_ := ⟨_, rfl⟩
 replace H : (if 0 ≤ (ji2) then (if (ji2) < (l0_5.length : Int) then (some ((rd_T34 l0_5 (ji2)).f0)) else (none)) else (none)) = some r := by first | (rw [hji2] at H; exact H) | (simp only [hji2] at H ⊢; exact H)
 have hji2w : (IntKind.i64.wrap ((l0_5.length : Int) - 1)) = ji2 := (i64_w _).trans hji2
 by_cases c3 : 0 ≤ (ji2)
 ·rw [if_pos c3] at H
  have c3b0 : decide (0 ≤ (ji2)) = true := decide_eq_true c3
  clear c3
  by_cases c4 : (ji2) < (l0_5.length : Int)
  ·rw [if_pos c4] at H
   have c4b0 : decide ((ji2) < (l0_5.length : Int)) = true := decide_eq_true c4
   clear c4
   obtain rfl := Option.some.inj H
   go_enter Try.func42, Try.ntmps42
   go_wp2_with (first | ((with_reducible refine gate_dst (N := 1) rfl ?_); refine box_event ?hg (N := 1) ?hd (cs := #[.bool a0_0, .bool a0_1, .int .i64 a0_2, .int .i64 a0_3, .int .i64 a0_4, .slice A0_5 l0_5.length c0_5]) (t := 56) ?hr ?_; (case hd => rfl); (case hg => rfl); (case hr => first | (go_simp; done) | (go_simp; rfl)); intro gb374 hg w5 hbox hb; have n0_ := Aside0.mk (below_step (by repeat (first | (with_reducible first | exact HB.out | apply below_alloc | apply pw_below_drewN | apply below_drew1) | exact HB.out)) hb); have n1_ := Aside0.mk (hbox); have n2_ := Aside0.mk ((by rw [hg]; exact (below_size (by repeat (first | (with_reducible first | exact HB.out | apply below_alloc | apply pw_below_drewN | apply below_drew1) | exact HB.out))) : w.heap.size ≤ gb374)); have n3_ := Aside0.mk ((by rw [hg]; exact (below_size (by repeat (first | (with_reducible first | exact HB.out | apply below_alloc | apply pw_below_drewN | apply below_drew1) | exact HB.out))) : w.heap.size ≤ gb374)); clear HB; have HB := n0_; have BK374 := n1_; have GW374 := n2_; have GE374 := n3_; clear n0_ n1_ n2_ n3_; clear hb hbox hg; have hcz6_0 : w5.cell? ⟨gb374, 0, none⟩ = some (.bool a0_0) := (blk_cell BK374.out 0).trans rfl; have hcz6_1 : w5.cell? ⟨gb374, 1, none⟩ = some (.bool a0_1) := (blk_cell BK374.out 1).trans rfl; have hcz6_2 : w5.cell? ⟨gb374, 2, none⟩ = some (.int .i64 a0_2) := (blk_cell BK374.out 2).trans rfl; have hcz6_3 : w5.cell? ⟨gb374, 3, none⟩ = some (.int .i64 a0_3) := (blk_cell BK374.out 3).trans rfl; have hcz6_4 : w5.cell? ⟨gb374, 4, none⟩ = some (.int .i64 a0_4) := (blk_cell BK374.out 4).trans rfl; have hcz6_5 : w5.cell? ⟨gb374, 5, none⟩ = some (.slice A0_5 l0_5.length c0_5) := (blk_cell BK374.out 5).trans rfl; have hfz6_0 := blk_frozen BK374.out 0; have hfz6_1 := blk_frozen BK374.out 1; have hfz6_2 := blk_frozen BK374.out 2; have hfz6_3 := blk_frozen BK374.out 3; have hfz6_4 := blk_frozen BK374.out 4; have hfz6_5 := blk_frozen BK374.out 5; have p375 : 0 ≤ ((ji2) : Int) := of_decide_eq_true (by first | (with_reducible assumption) | assumption); have q375 : (ji2) < (l0_5.length : Int) := of_decide_eq_true (by first | (with_reducible assumption) | assumption); obtain ⟨ad375, A375_3, c375_3, A375_5, c375_5, e375, hx375_0, hx375_1, hx375_2, hx375_3, hx375_4, hx375_5, hl375_3, hi375_3, hl375_5, hi375_5⟩ := at_T34 HR0_5.out (ji2) p375 q375; cases e375; replace hx375_0 := (HB.out.cell (World.block_lt_of_cell? w _ hx375_0)).trans hx375_0; replace hx375_1 := (HB.out.cell (World.block_lt_of_cell? w _ hx375_1)).trans hx375_1; replace hx375_2 := (HB.out.cell (World.block_lt_of_cell? w _ hx375_2)).trans hx375_2; replace hx375_3 := (HB.out.cell (World.block_lt_of_cell? w _ hx375_3)).trans hx375_3; replace hx375_4 := (HB.out.cell (World.block_lt_of_cell? w _ hx375_4)).trans hx375_4; replace hx375_5 := (HB.out.cell (World.block_lt_of_cell? w _ hx375_5)).trans hx375_5; have HR375_3 := Aside0.mk hi375_3; have HC375_3 := Aside0.mk hl375_3; clear hi375_3 hl375_3; have HR375_5 := Aside0.mk hi375_5; have HC375_5 := Aside0.mk hl375_5; clear hi375_5 hl375_5; replace p375 := eq_true p375; replace q375 := eq_true q375))
   go_ret
   exact ⟨by first | rfl | (simp [errW_none, errW_some] <;> rfl) | (simp only [← hji2]; first | rfl | (simp [errW_none, errW_some] <;> rfl)) | (simp [*, errW_none, errW_some] <;> rfl), by repeat (first | (with_reducible first | exact HB.out | apply below_alloc | apply pw_below_drewN | apply below_drew1 | refine below_set ?_ GE374.out) | exact HB.out)⟩
  ·rw [if_neg c4] at H
   exact absurd H (by simp)
 ·rw [if_neg c3] at H
  exact absurd H (by simp)

end Go.Proofs.Ytlkbjipndlmjgaa.G

namespace Go.Proofs.Ytlkbjipndlmjgaa.G
open Go.RowKit Go.Proofs.YtlkbjipndlmjgaaW.PrintWords Go.Proofs.YtlkbjipndlmjgaaW.PrintLast Go.Proofs.YtlkbjipndlmjgaaW.PrintMore Go.Proofs.Ytlkbjipndlmjgaa.Pu
set_option linter.unusedVariables false
set_option linter.unusedSimpArgs false
/-- The cells that hold a record. -/
def CellsR (W : World) (p : Addr) (r : S34) (A3 : Option Addr) (c3 : Nat) (A5 : Option Addr) (c5 : Nat) : Prop :=
  W.cell? p = some (.int .i64 r.f0) ∧ W.cell? ⟨p.block, p.off + 1, none⟩ = some (.int .i64 r.f1) ∧ W.cell? ⟨p.block, p.off + 2, none⟩ = some (.bool r.f2) ∧ W.cell? ⟨p.block, p.off + 3, none⟩ = some (.slice A3 r.f3.length c3) ∧ W.cell? ⟨p.block, p.off + 4, none⟩ = some (.bool r.f4) ∧ W.cell? ⟨p.block, p.off + 5, none⟩ = some (.slice A5 r.f5.length c5)
theorem CellsR.below {W W' : World} {p : Addr} {r : S34} {A3 A5 : Option Addr} {c3 c5 : Nat} (h : CellsR W p r A3 c3 A5 c5) (hb : Below W.heap.size W W') : CellsR W' p r A3 c3 A5 c5 := ⟨pw_cell_below hb h.1, pw_cell_below hb h.2.1, pw_cell_below hb h.2.2.1, pw_cell_below hb h.2.2.2.1, pw_cell_below hb h.2.2.2.2.1, pw_cell_below hb h.2.2.2.2.2⟩
theorem in_q (a b c : Int) (w : World) : Calls Try.prog 47 #[.int .i64 a, .int .i64 b, .int .i64 c] w fun e w' => e = .returned (.bool (decide (b ≤ a) && decide (a ≤ c))) ∧ ∃ n, w' = w.drewN n :=
  (spec_l6In.calls a b c _ w (in_ev a b c)).mono fun e w' h => ⟨h.1, h.2.out⟩
set_option maxRecDepth 100000 in
set_option maxHeartbeats 4000000 in
theorem specrecs_q (l : List S34) (A : Option Addr) (c : Nat) (w : World) (hr : Kd.C k34 w A l.length l) (hc : l.length ≤ c) :
    Calls Try.prog 46 #[.slice A l.length c] w fun e w' => e = .returned (.bool (recsInc l && lenOk l)) ∧ Below w.heap.size w w' := by
  have hl := hr.2.1
  have HR := Aside0.mk hr
  clear hr
  go_enter Try.func46, Try.ntmps46
  go_wp2
  go_loopw [3] (fun v3 wr => ∃ i : Nat, v3 = .int .i64 i ∧ i ≤ l.length ∧ (∀ j, j < i → recStep l j = true) ∧ Below w.heap.size w wr) (fun v3 _ => l.length - (intOf v3).toNat)
  case atStart => exact ⟨0, rfl, Nat.zero_le _, fun j hj => absurd hj (Nat.not_lt_zero j), Below.refl _ _⟩
  case round =>
    obtain ⟨i, rfl, hi, hall, hB1⟩ := hrel
    by_cases hlt : i < l.length
    · obtain ⟨ad, A3, c3, A5, c5, rfl, e0, e1, e2, e3, e4, e5, l3, g3, l5, g5⟩ := at_T34 (Kd.C_below HR.out hB1) (i : Int) (by omega) (by omega)
      rw [show ((i : Int)).toNat = i from rfl] at e0 e1 e2 e3 e4 e5
      have hrec : recStep l i = (recOk (rd_T34 l (i : Int)) && (decide (i = 0) || decide ((rd_T34 l ((i : Int) - 1)).f0 < (rd_T34 l (i : Int)).f0))) := rfl
      generalize rd_T34 l (i : Int) = ri at *
      have ci : CellsR wr (ad.add (i * 6)) ri A3 c3 A5 c5 := ⟨e0, e1, e2, e3, e4, e5⟩
      clear e0 e1 e2 e3 e4 e5
      go_wp2
      obtain ⟨kR, hkR⟩ := (sRecordValid_ev ri ⟨g3.2.1, g5.2.1⟩).rounds
      have hrc : ∀ (W2 : World), Below wr.heap.size wr W2 → Calls Try.prog 56 #[.agg #[.int .i64 ri.f0, .int .i64 ri.f1, .bool ri.f2, .slice A3 ri.f3.length c3, .bool ri.f4, .slice A5 ri.f5.length c5]] W2 fun e w' => e = .returned (.bool (recOk ri)) ∧ Below W2.heap.size W2 w' := fun (W2 : World) (hb : Below wr.heap.size wr W2) => spec_RecordValid.calls kR ri.f0 ri.f1 ri.f2 A3 c3 ri.f3 ri.f4 A5 c5 ri.f5 _ W2 (Kd.C_below g3 hb) l3 (Kd.C_below g5 hb) l5 hkR
      have HRC := Aside0.mk hrc
      clear hrc
      have kS : ∀ w' : World, Below wr.drew.heap.size wr.drew w' → CellsR w' (ad.add (i * 6)) ri A3 c3 A5 c5 ∧ Below wr.heap.size wr w' := fun w' h => ⟨ci.below (below_step (below_drew (Below.refl _ wr)) h), below_step (below_drew (Below.refl _ wr)) h⟩
      have hil : (i : Int) < (l.length : Int) := by omega
      rcases hok : recOk ri with _ | _ <;> rw [hok] at hkR HRC
      · have hno := Aside0.mk (incs_no hlt (hrec.trans (by rw [hok]; rfl)))
        refine r_begin (fun w' => CellsR w' (ad.add (i * 6)) ri A3 c3 A5 c5 ∧ Below wr.heap.size wr w') 24 (by kernel_rfl) rfl (kS _ (Below.refl _ _)) (fun hH => ?_)
        repeat (first | (refine r_skip (by kernel_rfl) (by rfl) (fun _ _ _ h => h) hH ?_; simp only [Act.put, List.setIfInBounds_toArray, List.set_cons_zero, List.set_cons_succ, Nat.reduceAdd]) | (refine r_go (v := ?_) (by kernel_rfl) (by rfl) (fun _ _ _ h => h) hH ?_ ?_; rotate_left; (focus (intro w hS; obtain ⟨⟨e0, e1, e2, e3, e4, e5⟩, e6⟩ := hS; go_simp; first | done | with_reducible rfl)); simp only [Act.put, List.setIfInBounds_toArray, List.set_cons_zero, List.set_cons_succ, Nat.reduceAdd]) | (fail "x"))
        refine r_one (by kernel_rfl) (by rfl) (fun K hK => ?_)
        go_simp
        go_at_call 56
        refine (HRC.out _ hH.2).mono ?_
        rintro e w2 ⟨rfl, hb⟩
        go_wp2_with fail
        refine hK.out _ _ (kS _ hb) (fun hH => ?_)
        clear hK K
        simp only [Act.put, List.setIfInBounds_toArray, List.set_cons_zero, List.set_cons_succ, Nat.reduceAdd]
        repeat (first | (refine r_skip (by kernel_rfl) (by rfl) (fun _ _ _ h => h) hH ?_; simp only [Act.put, List.setIfInBounds_toArray, List.set_cons_zero, List.set_cons_succ, Nat.reduceAdd]) | (refine r_go (v := ?_) (by kernel_rfl) (by rfl) (fun _ _ _ h => h) hH ?_ ?_; rotate_left; (focus (intro w hS; obtain ⟨⟨e0, e1, e2, e3, e4, e5⟩, e6⟩ := hS; go_simp; first | done | with_reducible rfl)); simp only [Act.put, List.setIfInBounds_toArray, List.set_cons_zero, List.set_cons_succ, Nat.reduceAdd]) | (fail "x"))
        refine r_done (by kernel_rfl) ?_
        go_wp2
        go_ret
        exact ⟨by rw [hno.out]; rfl, below_step hB1 hH.2⟩
      · rcases i with _ | j
        · have ez : ad.add (0 * 6) = ad := by go_simp
          rw [ez] at ci
          simp only [ez] at kS
          refine r_begin (fun w' => CellsR w' ad ri A3 c3 A5 c5 ∧ Below wr.heap.size wr w') 24 (by kernel_rfl) rfl (kS _ (Below.refl _ _)) (fun hH => ?_)
          repeat (first | (refine r_skip (by kernel_rfl) (by rfl) (fun _ _ _ h => h) hH ?_; simp only [Act.put, List.setIfInBounds_toArray, List.set_cons_zero, List.set_cons_succ, Nat.reduceAdd]) | (refine r_go (v := ?_) (by kernel_rfl) (by rfl) (fun _ _ _ h => h) hH ?_ ?_; rotate_left; (focus (intro w hS; obtain ⟨⟨e0, e1, e2, e3, e4, e5⟩, e6⟩ := hS; go_simp; first | done | with_reducible rfl)); simp only [Act.put, List.setIfInBounds_toArray, List.set_cons_zero, List.set_cons_succ, Nat.reduceAdd]) | (fail "x"))
          refine r_one (by kernel_rfl) (by rfl) (fun K hK => ?_)
          go_simp
          go_at_call 56
          refine (HRC.out _ hH.2).mono ?_
          rintro e w2 ⟨rfl, hb⟩
          go_wp2_with fail
          refine hK.out _ _ (kS _ hb) (fun hH => ?_)
          clear hK K
          simp only [Act.put, List.setIfInBounds_toArray, List.set_cons_zero, List.set_cons_succ, Nat.reduceAdd]
          repeat (first | (refine r_skip (by kernel_rfl) (by rfl) (fun _ _ _ h => h) hH ?_; simp only [Act.put, List.setIfInBounds_toArray, List.set_cons_zero, List.set_cons_succ, Nat.reduceAdd]) | (refine r_go (v := ?_) (by kernel_rfl) (by rfl) (fun _ _ _ h => h) hH ?_ ?_; rotate_left; (focus (intro w hS; obtain ⟨⟨e0, e1, e2, e3, e4, e5⟩, e6⟩ := hS; go_simp; first | done | with_reducible rfl)); simp only [Act.put, List.setIfInBounds_toArray, List.set_cons_zero, List.set_cons_succ, Nat.reduceAdd]) | (fail "x"))
          refine r_done (by kernel_rfl) ?_
          go_wp2
          go_roundw
          case rel =>
            have hst : ∀ j, j < 0 + 1 → recStep l j = true := by
              intro j hj
              obtain rfl : j = 0 := by omega
              exact hrec.trans (by rw [hok]; rfl)
            first | exact ⟨0 + 1, by simp, hlt, hst, below_step hB1 hH.2⟩ | ((repeat apply Exists.intro); refine ⟨⟨0 + 1, ?_, hlt, hst, below_step hB1 hH.2⟩, by first | rfl | (repeat' apply And.intro) <;> rfl⟩; simp)
          case measure => simp [intOf]; omega
        · obtain ⟨ad2, _, _, _, _, hq, f0, _⟩ := at_T34 (Kd.C_below HR.out hB1) (j : Int) (by omega) (by omega)
          cases hq
          rw [show ((j : Int)).toNat = j from rfl] at f0
          have hrec2 : recStep l (j + 1) = (recOk ri && (decide (j + 1 = 0) || decide ((rd_T34 l (j : Int)).f0 < ri.f0))) := by
            rw [hrec, show ((j + 1 : Nat) : Int) - 1 = (j : Int) by omega]
          generalize (rd_T34 l (j : Int)).f0 = pj at f0 hrec2
          have hwj : IntKind.i64.wrap (j : Int) = (j : Int) := by rw [i64_w]; unfold wrap64; omega
          have hjl : (j : Int) < (l.length : Int) := by omega
          have hjl1 : (j : Int) + 1 < (l.length : Int) := by omega
          have hj0 : (0 : Int) ≤ (j : Int) + 1 := by omega
          have htn : ((j : Int) + 1).toNat = j + 1 := by omega
          have kS2 : ∀ w' : World, Below wr.drew.heap.size wr.drew w' → (CellsR w' (ad.add ((j + 1) * 6)) ri A3 c3 A5 c5 ∧ Below wr.heap.size wr w') ∧ w'.cell? (ad.add (j * 6)) = some (.int .i64 pj) := fun w' h => ⟨kS w' h, pw_cell_below (below_step (below_drew (Below.refl _ wr)) h) f0⟩
          have hno := Aside0.mk hrec2
          clear hrec hrec2
          refine r_begin (fun w' => (CellsR w' (ad.add ((j + 1) * 6)) ri A3 c3 A5 c5 ∧ Below wr.heap.size wr w') ∧ w'.cell? (ad.add (j * 6)) = some (.int .i64 pj)) 24 (by kernel_rfl) rfl (kS2 _ (Below.refl _ _)) (fun hH => ?_)
          repeat (first | (refine r_skip (by kernel_rfl) (by rfl) (fun _ _ _ h => h) hH ?_; simp only [Act.put, List.setIfInBounds_toArray, List.set_cons_zero, List.set_cons_succ, Nat.reduceAdd]) | (refine r_go (v := ?_) (by kernel_rfl) (by rfl) (fun _ _ _ h => h) hH ?_ ?_; rotate_left; (focus (intro w hS; obtain ⟨⟨⟨e0, e1, e2, e3, e4, e5⟩, e6⟩, e7⟩ := hS; go_simp; first | done | with_reducible rfl)); simp only [Act.put, List.setIfInBounds_toArray, List.set_cons_zero, List.set_cons_succ, Nat.reduceAdd]) | (fail "x"))
          refine r_one (by kernel_rfl) (by rfl) (fun K hK => ?_)
          go_simp
          go_at_call 56
          refine (HRC.out _ hH.1.2).mono ?_
          rintro e w2 ⟨rfl, hb⟩
          go_wp2_with fail
          refine hK.out _ _ (kS2 _ hb) (fun hH => ?_)
          clear hK K
          simp only [Act.put, List.setIfInBounds_toArray, List.set_cons_zero, List.set_cons_succ, Nat.reduceAdd]
          repeat (first | (refine r_skip (by kernel_rfl) (by rfl) (fun _ _ _ h => h) hH ?_; simp only [Act.put, List.setIfInBounds_toArray, List.set_cons_zero, List.set_cons_succ, Nat.reduceAdd]) | (refine r_go (v := ?_) (by kernel_rfl) (by rfl) (fun _ _ _ h => h) hH ?_ ?_; rotate_left; (focus (intro w hS; obtain ⟨⟨⟨e0, e1, e2, e3, e4, e5⟩, e6⟩, e7⟩ := hS; go_simp; first | done | with_reducible rfl)); simp only [Act.put, List.setIfInBounds_toArray, List.set_cons_zero, List.set_cons_succ, Nat.reduceAdd]) | (fail "x"))
          refine r_done (by kernel_rfl) ?_
          have hBw := below_step hB1 hH.1.2
          by_cases hlt2 : pj < ri.f0
          · have hst : ∀ j', j' < j + 1 + 1 → recStep l j' = true := by
              intro j' hj
              by_cases h' : j' < j + 1
              · exact hall j' h'
              · obtain rfl : j' = j + 1 := by omega
                rw [hno.out, hok, decide_eq_true hlt2, Bool.or_true]; rfl
            have hng : ¬ ri.f0 ≤ pj := by omega
            go_wp2
            go_roundw
            case rel => first | exact ⟨j + 1 + 1, by simp, hlt, hst, hBw⟩ | ((repeat apply Exists.intro); refine ⟨⟨j + 1 + 1, ?_, hlt, hst, hBw⟩, by first | rfl | (repeat' apply And.intro) <;> rfl⟩; simp)
            case measure => simp [intOf]; omega
          · have hn2 := Aside0.mk (incs_no hlt (hno.out.trans (by rw [hok, decide_eq_false hlt2, decide_eq_false (show ¬ j + 1 = 0 by omega)]; rfl)))
            have hng : ri.f0 ≤ pj := by omega
            go_wp2
            go_ret
            exact ⟨by rw [hn2.out]; rfl, hBw⟩
    · obtain rfl : i = l.length := by omega
      go_wp2_with (go_at_call 47; refine (in_q _ _ _ _).mono ?_; rintro e w' ⟨rfl, ⟨n, rfl⟩⟩)
      go_ret
      exact ⟨by rw [incs_of hall]; rfl, pw_below_drewN hB1 _⟩
def batTail (b : S56) : Bool := if b.f2 = 255 then decide (b.f3 = 0) && (decide (b.f4 = 0) && !b.f1) else (!b.f1 || decide ((b.f5.length : Int) = 1))
theorem batOk_spec (b : S56) : batOk b = ((recsInc b.f5 && lenOk b.f5) && ((decide (0 ≤ b.f2) && decide (b.f2 ≤ 255)) && ((decide (0 ≤ b.f3) && decide (b.f3 ≤ 99)) && ((decide (0 ≤ b.f4) && decide (b.f4 ≤ 9999)) && batTail b)))) := by
  unfold batOk headOk batTail
  by_cases h : b.f2 = 255
  · rw [if_pos h, if_pos h, h]
    cases recsInc b.f5
    · simp
    · rw [Bool.eq_iff_iff]
      simp only [lenOk, Bool.and_eq_true, Bool.or_eq_true, decide_eq_true_eq, Bool.not_eq_true']
      constructor
      · rintro ⟨⟨h3, h4, h1⟩, hl, hm, _⟩
        exact ⟨⟨trivial, hl⟩, ⟨by omega, by omega⟩, ⟨by omega, by omega⟩, ⟨by omega, by omega⟩, h3, h4, h1⟩
      · rintro ⟨⟨_, hl⟩, _, _, _, h3, h4, h1⟩
        exact ⟨⟨h3, h4, h1⟩, hl, .inl h1, trivial⟩
  · rw [if_neg h, if_neg h]
    rw [Bool.eq_iff_iff]
    simp only [Bool.and_eq_true, decide_eq_true_eq]
    constructor
    · rintro ⟨⟨h2, h3, h4⟩, hl, hm, hr⟩
      exact ⟨⟨hr, hl⟩, ⟨by omega, by omega⟩, h3, h4, hm⟩
    · rintro ⟨⟨hr, hl⟩, h2, h3, h4, hm⟩
      exact ⟨⟨⟨by omega, by omega⟩, h3, h4⟩, hl, hm, hr⟩
theorem sb_no {b2 b3 b4 : Int} {x : Bool} (h : ¬(0 ≤ b2 ∧ b2 ≤ 255) ∨ ¬(0 ≤ b3 ∧ b3 ≤ 99) ∨ ((!decide (0 ≤ b4)) = true ∨ (!decide (b4 ≤ 9999)) = true)) : Ending.returned (.bool false) = .returned (.bool (true && ((decide (0 ≤ b2) && decide (b2 ≤ 255)) && ((decide (0 ≤ b3) && decide (b3 ≤ 99)) && ((decide (0 ≤ b4) && decide (b4 ≤ 9999)) && x))))) := by
  congr 2
  grind
theorem sb_t {b2 b3 b4 : Int} {x y : Bool} (h2 : 0 ≤ b2 ∧ b2 ≤ 255) (h3 : 0 ≤ b3 ∧ b3 ≤ 99) (h4 : (!decide (0 ≤ b4)) = false ∧ (!decide (b4 ≤ 9999)) = false) (hx : x = y) : Ending.returned (.bool y) = .returned (.bool (true && ((decide (0 ≤ b2) && decide (b2 ≤ 255)) && ((decide (0 ≤ b3) && decide (b3 ≤ 99)) && ((decide (0 ≤ b4) && decide (b4 ≤ 9999)) && x))))) := by
  subst hx
  congr 2
  grind
section
variable {b0 b1 : Bool} {b2 b3 b4 : Int} {l : List S34}
theorem tl1 (h : (b2 == 255) = true) (h3 : b3 = 0) (h4 : b4 = 0) : batTail ⟨b0, b1, b2, b3, b4, l⟩ = !b1 := by unfold batTail; grind
theorem tl2 (h : (b2 == 255) = true) (h3 : b3 = 0) (h4 : ¬ b4 = 0) : batTail ⟨b0, b1, b2, b3, b4, l⟩ = false := by unfold batTail; grind
theorem tl3 (h : (b2 == 255) = true) (h3 : ¬ b3 = 0) : batTail ⟨b0, b1, b2, b3, b4, l⟩ = false := by unfold batTail; grind
theorem tl4 (h : (b2 == 255) = false) (h1 : b1 = true) : batTail ⟨b0, b1, b2, b3, b4, l⟩ = ((l.length : Int) == 1) := by unfold batTail; grind
theorem tl5 (h : (b2 == 255) = false) (h1 : ¬ b1 = true) : batTail ⟨b0, b1, b2, b3, b4, l⟩ = true := by unfold batTail; grind
end
set_option maxRecDepth 100000 in
set_option maxHeartbeats 4000000 in
theorem specbat_q (b : S56) (A : Option Addr) (c : Nat) (w : World) (hr : Kd.C k34 w A b.f5.length b.f5) (hc : b.f5.length ≤ c) :
    Calls Try.prog 34 #[.agg #[.bool b.f0, .bool b.f1, .int .i64 b.f2, .int .i64 b.f3, .int .i64 b.f4, .slice A b.f5.length c]] w fun e w' => e = .returned (.bool (batOk b)) ∧ Below w.heap.size w w' := by
  rw [batOk_spec]
  obtain ⟨b0, b1, b2, b3, b4, l⟩ := b
  simp only at hr hc ⊢
  have hl := hr.2.1
  have HL := Aside0.mk (fun (W2 : World) (hb : Below w.heap.size w W2) => specrecs_q l A c W2 (Kd.C_below hr hb) hc)
  clear hr
  rcases hok : (recsInc l && lenOk l) with _ | _ <;> rw [hok] at HL
  · go_enter Try.func34, Try.ntmps34
    go_wp2_with (go_at_call 46; refine (HL.out _ (below_alloc (Below.refl _ _) _)).mono ?_; rintro e w1 ⟨rfl, hb⟩)
    go_ret
    exact ⟨rfl, below_step (below_alloc (Below.refl _ _) _) hb⟩
  · go_enter Try.func34, Try.ntmps34
    go_wp2_with (first | (go_at_call 47; refine (in_q _ _ _ _).mono ?_; rintro e w' ⟨rfl, ⟨n, rfl⟩⟩) | (go_at_call 46; refine (HL.out _ (below_alloc (Below.refl _ _) _)).mono ?_; rintro e w1 ⟨rfl, hb⟩; have hB := below_step (below_alloc (Below.refl _ _) _) hb; have hw := blk_below (heap_alloc_new w _) hb; have q1 := blk_cell hw 1; have q2 := blk_cell hw 2; have q3 := blk_cell hw 3; have q4 := blk_cell hw 4; have q5 := blk_cell hw 5; clear hb hw))
    all_goals (go_ret; exact ⟨by first | exact sb_no (.inl ‹_›) | exact sb_no (.inr (.inl ‹_›)) | exact sb_no (.inr (.inr ‹_›)) | exact sb_t ‹_› ‹_› ‹_› (tl1 ‹_› ‹_› ‹_›) | exact sb_t ‹_› ‹_› ‹_› (tl2 ‹_› ‹_› ‹_›) | exact sb_t ‹_› ‹_› ‹_› (tl3 ‹_› ‹_›) | exact sb_t ‹_› ‹_› ‹_› (tl4 ‹_› ‹_›) | exact sb_t ‹_› ‹_› ‹_› (tl5 ‹_› ‹_›), pw_below_drewN hB _⟩)
def spec_BatchValid.f (k : Nat) (a0 : Bool) (a1 : Bool) (a2 a3 a4 : Int) (a5 : List S34) : Option Bool := some (batOk ⟨a0, a1, a2, a3, a4, a5⟩)
theorem spec_BatchValid.calls (k : Nat) (a0_0 : Bool) (a0_1 : Bool) (a0_2 : Int) (a0_3 : Int) (a0_4 : Int) (A0_5 : Option Addr) (c0_5 : Nat) (l0_5 : List (S34)) (r : Bool) (w : World) (hr0_5 : Kd.C k34 w A0_5 l0_5.length l0_5) (hc0_5 : l0_5.length ≤ c0_5) (h : spec_BatchValid.f k a0_0 a0_1 a0_2 a0_3 a0_4 l0_5 = some r) :
    Calls Try.prog 34 #[.agg #[.bool a0_0, .bool a0_1, .int .i64 a0_2, .int .i64 a0_3, .int .i64 a0_4, .slice A0_5 l0_5.length c0_5]] w fun e w' => e = .returned (.bool r) ∧ Below w.heap.size w w' := by
  obtain rfl := Option.some.inj h
  exact specbat_q ⟨a0_0, a0_1, a0_2, a0_3, a0_4, l0_5⟩ A0_5 c0_5 w hr0_5 hc0_5
theorem slast_q (b : S56) (A : Option Addr) (c : Nat) (w : World) (hr : Kd.C k34 w A b.f5.length b.f5) (hc : b.f5.length ≤ c) (hn : 1 ≤ b.f5.length ∧ b.f5.length ≤ 6) : Calls Try.prog 42 #[.agg #[.bool b.f0, .bool b.f1, .int .i64 b.f2, .int .i64 b.f3, .int .i64 b.f4, .slice A b.f5.length c]] w fun e w' => e = .returned (.int .i64 (lastOf b)) ∧ Below w.heap.size w w' :=
  spec_l12Last.calls _ _ _ _ _ A c b.f5 _ w hr hc (by
    unfold spec_l12Last.f lastOf
    simp only [w64 (a := (b.f5.length : Int) - 1) (by omega) (by omega), if_pos (show (0 : Int) ≤ (b.f5.length : Int) - 1 by omega), if_pos (show (b.f5.length : Int) - 1 < (b.f5.length : Int) by omega), if_pos (show (0 : Int) < (b.f5.length : Int) by omega)])
set_option maxRecDepth 100000 in
set_option maxHeartbeats 4000000 in
theorem speclog_q (l : List S56) (A : Option Addr) (c : Nat) (w : World) (hr : Kd.C k56 w A l.length l) (hc : l.length ≤ c) :
    Calls Try.prog 23 #[.slice A l.length c] w fun e w' => e = .returned (.bool (logOk l)) ∧ Below w.heap.size w w' := by
  have hl := hr.2.1
  unfold logOk
  have HR := Aside0.mk hr
  clear hr
  go_enter Try.func23, Try.ntmps23
  go_wp2
  go_loopw [3] (fun v3 wr => ∃ i : Nat, v3 = .int .i64 i ∧ i ≤ l.length ∧ (∀ j, j < i → batStep l j = true) ∧ Below w.heap.size w wr) (fun v3 _ => l.length - (intOf v3).toNat)
  case atStart => exact ⟨0, rfl, Nat.zero_le _, fun j hj => absurd hj (Nat.not_lt_zero j), Below.refl _ _⟩
  case round =>
    obtain ⟨i, rfl, hi, hall, hB1⟩ := hrel
    by_cases hlt : i < l.length
    · obtain ⟨ad, A5, c5, rfl, e0, e1, e2, e3, e4, e5, l5, g5⟩ := at_T56 (Kd.C_below HR.out hB1) (i : Int) (by omega) (by omega)
      rw [show ((i : Int)).toNat = i from rfl] at e0 e1 e2 e3 e4 e5
      have hrec : batStep l i = (batOk (rd_T56 l (i : Int)) && (decide (i = 0) || decide (lastOf (rd_T56 l ((i : Int) - 1)) < firstOf (rd_T56 l (i : Int))))) := rfl
      generalize rd_T56 l (i : Int) = bi at *
      have ci : CellsB wr (ad.add (i * 6)) bi A5 c5 := ⟨e0, e1, e2, e3, e4, e5⟩
      clear e0 e1 e2 e3 e4 e5
      go_wp2
      have HRC := Aside0.mk (fun (W2 : World) (hb : Below wr.heap.size wr W2) => specbat_q bi A5 c5 W2 (Kd.C_below g5 hb) l5)
      have kS : ∀ w' : World, Below wr.drew.heap.size wr.drew w' → CellsB w' (ad.add (i * 6)) bi A5 c5 ∧ Below wr.heap.size wr w' := fun w' h => ⟨ci.below (below_step (below_drew (Below.refl _ wr)) h), below_step (below_drew (Below.refl _ wr)) h⟩
      have hil : (i : Int) < (l.length : Int) := by omega
      rcases hok : batOk bi with _ | _ <;> rw [hok] at HRC
      · have hno := Aside0.mk (logs_no hlt (hrec.trans (by rw [hok]; rfl)))
        refine r_begin (fun w' => CellsB w' (ad.add (i * 6)) bi A5 c5 ∧ Below wr.heap.size wr w') 27 (by kernel_rfl) rfl (kS _ (Below.refl _ _)) (fun hH => ?_)
        repeat (first | (refine r_skip (by kernel_rfl) (by rfl) (fun _ _ _ h => h) hH ?_; simp only [Act.put, List.setIfInBounds_toArray, List.set_cons_zero, List.set_cons_succ, Nat.reduceAdd]) | (refine r_go (v := ?_) (by kernel_rfl) (by rfl) (fun _ _ _ h => h) hH ?_ ?_; rotate_left; (focus (intro w hS; obtain ⟨⟨e0, e1, e2, e3, e4, e5⟩, e6⟩ := hS; go_simp; first | done | with_reducible rfl)); simp only [Act.put, List.setIfInBounds_toArray, List.set_cons_zero, List.set_cons_succ, Nat.reduceAdd]) | (fail "x"))
        refine r_one (by kernel_rfl) (by rfl) (fun K hK => ?_)
        go_simp
        go_at_call 34
        refine (HRC.out _ hH.2).mono ?_
        rintro e w2 ⟨rfl, hb⟩
        go_wp2_with fail
        refine hK.out _ _ (kS _ hb) (fun hH => ?_)
        clear hK K
        simp only [Act.put, List.setIfInBounds_toArray, List.set_cons_zero, List.set_cons_succ, Nat.reduceAdd]
        repeat (first | (refine r_skip (by kernel_rfl) (by rfl) (fun _ _ _ h => h) hH ?_; simp only [Act.put, List.setIfInBounds_toArray, List.set_cons_zero, List.set_cons_succ, Nat.reduceAdd]) | (refine r_go (v := ?_) (by kernel_rfl) (by rfl) (fun _ _ _ h => h) hH ?_ ?_; rotate_left; (focus (intro w hS; obtain ⟨⟨e0, e1, e2, e3, e4, e5⟩, e6⟩ := hS; go_simp; first | done | with_reducible rfl)); simp only [Act.put, List.setIfInBounds_toArray, List.set_cons_zero, List.set_cons_succ, Nat.reduceAdd]) | (fail "x"))
        refine r_done (by kernel_rfl) ?_
        go_wp2
        go_ret
        exact ⟨by rw [hno.out]; rfl, below_step hB1 hH.2⟩
      · rcases i with _ | j
        · have ez : ad.add (0 * 6) = ad := by go_simp
          rw [ez] at ci
          simp only [ez] at kS
          refine r_begin (fun w' => CellsB w' ad bi A5 c5 ∧ Below wr.heap.size wr w') 27 (by kernel_rfl) rfl (kS _ (Below.refl _ _)) (fun hH => ?_)
          repeat (first | (refine r_skip (by kernel_rfl) (by rfl) (fun _ _ _ h => h) hH ?_; simp only [Act.put, List.setIfInBounds_toArray, List.set_cons_zero, List.set_cons_succ, Nat.reduceAdd]) | (refine r_go (v := ?_) (by kernel_rfl) (by rfl) (fun _ _ _ h => h) hH ?_ ?_; rotate_left; (focus (intro w hS; obtain ⟨⟨e0, e1, e2, e3, e4, e5⟩, e6⟩ := hS; go_simp; first | done | with_reducible rfl)); simp only [Act.put, List.setIfInBounds_toArray, List.set_cons_zero, List.set_cons_succ, Nat.reduceAdd]) | (fail "x"))
          refine r_one (by kernel_rfl) (by rfl) (fun K hK => ?_)
          go_simp
          go_at_call 34
          refine (HRC.out _ hH.2).mono ?_
          rintro e w2 ⟨rfl, hb⟩
          go_wp2_with fail
          refine hK.out _ _ (kS _ hb) (fun hH => ?_)
          clear hK K
          simp only [Act.put, List.setIfInBounds_toArray, List.set_cons_zero, List.set_cons_succ, Nat.reduceAdd]
          repeat (first | (refine r_skip (by kernel_rfl) (by rfl) (fun _ _ _ h => h) hH ?_; simp only [Act.put, List.setIfInBounds_toArray, List.set_cons_zero, List.set_cons_succ, Nat.reduceAdd]) | (refine r_go (v := ?_) (by kernel_rfl) (by rfl) (fun _ _ _ h => h) hH ?_ ?_; rotate_left; (focus (intro w hS; obtain ⟨⟨e0, e1, e2, e3, e4, e5⟩, e6⟩ := hS; go_simp; first | done | with_reducible rfl)); simp only [Act.put, List.setIfInBounds_toArray, List.set_cons_zero, List.set_cons_succ, Nat.reduceAdd]) | (fail "x"))
          refine r_done (by kernel_rfl) ?_
          go_wp2
          go_roundw
          case rel =>
            have hst : ∀ j, j < 0 + 1 → batStep l j = true := by
              intro j hj
              obtain rfl : j = 0 := by omega
              exact hrec.trans (by rw [hok]; rfl)
            first | exact ⟨0 + 1, by simp, hlt, hst, below_step hB1 hH.2⟩ | ((repeat apply Exists.intro); refine ⟨⟨0 + 1, ?_, hlt, hst, below_step hB1 hH.2⟩, by first | rfl | (repeat' apply And.intro) <;> rfl⟩; simp)
          case measure => simp [intOf]; omega
        · obtain ⟨ad2, A4, c4, hq, f0, f1, f2, f3, f4, f5, l4, g4⟩ := at_T56 (Kd.C_below HR.out hB1) (j : Int) (by omega) (by omega)
          cases hq
          rw [show ((j : Int)).toNat = j from rfl] at f0 f1 f2 f3 f4 f5
          have hjs := hall j (by omega)
          have hrec2 : batStep l (j + 1) = (batOk bi && (decide (j + 1 = 0) || decide (lastOf (rd_T56 l (j : Int)) < firstOf bi))) := by
            rw [hrec, show ((j + 1 : Nat) : Int) - 1 = (j : Int) by omega]
          unfold batStep at hjs
          have hbj := (Bool.and_eq_true_iff.1 hjs).1
          clear hjs
          generalize rd_T56 l (j : Int) = bj at *
          have hnj := batOk_len hbj
          have hni := batOk_len hok
          have cj : CellsB wr (ad.add (j * 6)) bj A4 c4 := ⟨f0, f1, f2, f3, f4, f5⟩
          obtain ⟨ad5, _, _, _, _, rfl, k0, _⟩ := at_T34 g5 0 (by omega) (by omega)
          change wr.cell? (ad5.add (0 * 6)) = some (.int .i64 (firstOf bi)) at k0
          have ez : ad5.add (0 * 6) = ad5 := by go_simp
          rw [ez] at k0
          have hwj : IntKind.i64.wrap (j : Int) = (j : Int) := by rw [i64_w]; unfold wrap64; omega
          have hjl : (j : Int) < (l.length : Int) := by omega
          have hjl1 : (j : Int) + 1 < (l.length : Int) := by omega
          have hj0 : (0 : Int) ≤ (j : Int) + 1 := by omega
          have htn : ((j : Int) + 1).toNat = j + 1 := by omega
          have hn0 : 0 < bi.f5.length := by omega
          have HL := Aside0.mk (fun (W2 : World) (hb : Below wr.heap.size wr W2) => slast_q bj A4 c4 W2 (Kd.C_below g4 hb) l4 hnj)
          have kS2 : ∀ w' : World, Below wr.heap.size wr w' → CellsB w' (ad.add ((j + 1) * 6)) bi (some ad5) c5 ∧ CellsB w' (ad.add (j * 6)) bj A4 c4 ∧ w'.cell? ad5 = some (.int .i64 (firstOf bi)) ∧ Below wr.heap.size wr w' := fun w' h => ⟨ci.below h, cj.below h, pw_cell_below h k0, h⟩
          have hno := Aside0.mk hrec2
          clear hrec hrec2
          clear f0 f1 f2 f3 f4 f5 kS
          go_region_held3 (fun w' => (w'.cell? (ad.add ((j + 1) * 6)) = some (.bool bi.f0) ∧ w'.cell? ⟨(ad.add ((j + 1) * 6)).block, (ad.add ((j + 1) * 6)).off + 1, none⟩ = some (.bool bi.f1) ∧ w'.cell? ⟨(ad.add ((j + 1) * 6)).block, (ad.add ((j + 1) * 6)).off + 2, none⟩ = some (.int .i64 bi.f2) ∧ w'.cell? ⟨(ad.add ((j + 1) * 6)).block, (ad.add ((j + 1) * 6)).off + 3, none⟩ = some (.int .i64 bi.f3) ∧ w'.cell? ⟨(ad.add ((j + 1) * 6)).block, (ad.add ((j + 1) * 6)).off + 4, none⟩ = some (.int .i64 bi.f4) ∧ w'.cell? ⟨(ad.add ((j + 1) * 6)).block, (ad.add ((j + 1) * 6)).off + 5, none⟩ = some (.slice (some ad5) bi.f5.length c5)) ∧ (w'.cell? (ad.add (j * 6)) = some (.bool bj.f0) ∧ w'.cell? ⟨(ad.add (j * 6)).block, (ad.add (j * 6)).off + 1, none⟩ = some (.bool bj.f1) ∧ w'.cell? ⟨(ad.add (j * 6)).block, (ad.add (j * 6)).off + 2, none⟩ = some (.int .i64 bj.f2) ∧ w'.cell? ⟨(ad.add (j * 6)).block, (ad.add (j * 6)).off + 3, none⟩ = some (.int .i64 bj.f3) ∧ w'.cell? ⟨(ad.add (j * 6)).block, (ad.add (j * 6)).off + 4, none⟩ = some (.int .i64 bj.f4) ∧ w'.cell? ⟨(ad.add (j * 6)).block, (ad.add (j * 6)).off + 5, none⟩ = some (.slice A4 bj.f5.length c4)) ∧ w'.cell? ad5 = some (.int .i64 (firstOf bi)) ∧ Below wr.heap.size wr w') (first | exact kS2 _ (below_drew (Below.refl _ _)) | assumption | exact kS2 _ (below_step (below_drew (Below.refl _ _)) ‹_›) | exact kS2 _ (below_step (by have hq := ‹_ ∧ _ ∧ _ ∧ Below wr.heap.size wr _›; exact hq.2.2.2) ‹_›))
            (first | (go_at_call 34; refine (HRC.out _ (by first | exact below_drew (Below.refl _ _) | exact (‹_ ∧ _ ∧ _ ∧ Below wr.heap.size wr _›).2.2.2)).mono ?_; rintro e w' ⟨rfl, hb⟩) | (go_at_call 42; refine (HL.out _ (by first | exact below_drew (Below.refl _ _) | exact (‹_ ∧ _ ∧ _ ∧ Below wr.heap.size wr _›).2.2.2)).mono ?_; rintro e w' ⟨rfl, hb⟩))
          all_goals
            have hBw := below_step hB1 (‹_ ∧ _ ∧ _ ∧ Below wr.heap.size wr _›).2.2.2
            by_cases hc : lastOf bj < firstOf bi
            · have hst : ∀ j', j' < j + 1 + 1 → batStep l j' = true := by
                intro j' hj
                by_cases h' : j' < j + 1
                · exact hall j' h'
                · obtain rfl : j' = j + 1 := by omega
                  rw [hno.out, hok, decide_eq_true hc, Bool.or_true]; rfl
              have hng : ¬ firstOf bi ≤ lastOf bj := by omega
              go_wp2
              go_roundw
              case rel => first | exact ⟨j + 1 + 1, by simp, hlt, hst, hBw⟩ | ((repeat apply Exists.intro); refine ⟨⟨j + 1 + 1, ?_, hlt, hst, hBw⟩, by first | rfl | (repeat' apply And.intro) <;> rfl⟩; simp)
              case measure => simp [intOf]; omega
            · have hn2 := Aside0.mk (logs_no hlt (hno.out.trans (by rw [hok, decide_eq_false hc, decide_eq_false (show ¬ j + 1 = 0 by omega)]; rfl)))
              have hng : firstOf bi ≤ lastOf bj := by omega
              go_wp2
              go_ret
              exact ⟨by rw [hn2.out]; rfl, hBw⟩
    · obtain rfl : i = l.length := by omega
      go_wp2
      go_ret
      exact ⟨by rw [logs_of hall]; rfl, hB1⟩
def spec_LogValid.f (k : Nat) (a0 : List S56) : Option Bool := some (logOk a0)
theorem spec_LogValid.calls (k : Nat) (A0 : Option Addr) (c0 : Nat) (l0 : List (S56)) (r : Bool) (w : World) (hr0 : Kd.C k56 w A0 l0.length l0) (hc0 : l0.length ≤ c0) (h : spec_LogValid.f k l0 = some r) :
    Calls Try.prog 23 #[.slice A0 l0.length c0] w fun e w' => e = .returned (.bool r) ∧ Below w.heap.size w w' := by
  obtain rfl := Option.some.inj h
  exact speclog_q l0 A0 c0 w hr0 hc0
end Go.Proofs.Ytlkbjipndlmjgaa.G

