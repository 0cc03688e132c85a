/- A text of seat Ythoioccmnphfgaa: what the law FnExactLogSize needs of this repo's texts (by pack.py). Not trusted: Lean checks it. -/
import Derived.Test.YthoioccmnphfgaaKFnExactLogSize8
import Derived.Deep.Slices
import Derived.SizedLaws
import Derived.Laws.BitsLemmas
namespace Go.Proofs.Ythoioccmnphfgaa.G
open Go.RowKit Go.Proofs.YthoioccmnphfgaaW.PrintWords Go.Proofs.YthoioccmnphfgaaW.PrintLast Go.Proofs.YthoioccmnphfgaaW.PrintMore
attribute [local go_sem] max2_int min2_int max_two min_two max_three min_three max_four min_four   -- for this text's walks alone
set_option linter.unusedVariables false
set_option linter.unusedSimpArgs false

def laws_toBatchS.l0 : Nat → List (S56) → List (S46) → Int → Option ((List (S46)))
 | 0, _, _, _ => none
 | k + 1, x0, x3, x4 => if x4 < (x0.length : Int) then (if 0 ≤ x4 then ((laws_toBatch.f k ((rd_T56 x0 x4).f0) ((rd_T56 x0 x4).f1) ((rd_T56 x0 x4).f2) ((rd_T56 x0 x4).f3) ((rd_T56 x0 x4).f4) ((rd_T56 x0 x4).f5)).bind fun bt726 => (if x4 < (x3.length : Int) then (laws_toBatchS.l0 k x0 (x3.set (x4 : Int).toNat (⟨bt726.1, bt726.2.1, bt726.2.2.1, bt726.2.2.2.1, bt726.2.2.2.2.1, bt726.2.2.2.2.2⟩ : S46)) (wrap64 (x4 + 1))) else (none))) else (none)) else (some x3)
def laws_toBatchS.f (k : Nat) (l0 : List (S56)) : Option ((List (S46))) := if 0 ≤ (l0.length : Int) then (if ((l0.length : Int) : Int).toNat ≤ 5026338869833 then (laws_toBatchS.l0 k l0 (List.replicate ((l0.length : Int) : Int).toNat z46) 0) else (none)) else (none)
set_option maxHeartbeats 8000000 in
set_option maxRecDepth 100000 in
theorem laws_toBatchS.calls (k : Nat) (A0 : Option Addr) (c0 : Nat) (l0 : List (S56)) (r : List (S46)) (w : World) (hr0 : Kd.C k56 w A0 l0.length l0) (hc0 : l0.length ≤ c0) (h : laws_toBatchS.f k l0 = some r) :
  Calls Try.prog 17 #[.slice A0 l0.length c0] w fun e w' => ∃ v0_ : Value, e = .returned (v0_) ∧ Kd.R k46 46 w' w.heap.size (fun _ => True) v0_ r ∧ Below w.heap.size w w' := by
 have hu56 := Try.underlying56
 have hu46 := Try.underlying46
 have HR0 := Aside0.mk hr0
 have HC0 := Aside0.mk hc0
 clear hr0 hc0
 have HB := Aside0.mk (Below.refl w.heap.size w)
 have H : (if 0 ≤ (l0.length : Int) then (if ((l0.length : Int) : Int).toNat ≤ 5026338869833 then (laws_toBatchS.l0 k l0 (List.replicate ((l0.length : Int) : Int).toNat z46) 0) else (none)) else (none)) = some r := h
 clear h
 by_cases c2 : 0 ≤ (l0.length : Int)
 ·rw [if_pos c2] at H
  have c2b0 := eq_true c2
  have c2b1 : decide (0 ≤ (l0.length : Int)) = true := decide_eq_true c2
  clear c2
  by_cases c3 : ((l0.length : Int) : Int).toNat ≤ 5026338869833
  ·rw [if_pos c3] at H
   have c3b0 := eq_true c3
   have c3b1 : decide (((l0.length : Int) : Int).toNat ≤ 5026338869833) = true := decide_eq_true c3
   clear c3
   obtain ⟨y722, hy722⟩ : ∃ y_ : List (S46), y_ = (List.replicate ((l0.length : Int) : Int).toNat z46) := ⟨_, rfl⟩
   replace H : (laws_toBatchS.l0 k l0 y722 0) = some r := by first | (rw [hy722]; with_reducible exact H) | (have H2_ := (Option.bind_some _ _).symm.trans H; rw [hy722]; with_reducible exact H2_) | (have H2_ := (Option.bind_some _ _).symm.trans H; with_reducible exact H2_) | with_reducible exact H | (rw [hy722]; exact H) | exact H
   have Ny722 := Aside0.mk hy722
   clear hy722
   have H' := Aside0.mk H
   clear H
   go_enter Try.func17, Try.ntmps17
   go_wp2_with (first | ((with_reducible refine gate_dst (N := 7) rfl ?_); refine Kd.R_make k46 _ 46 rfl (N := 7) rfl 23 _ _ rfl (l0.length : Int) rfl rfl Try.underlying23 (.agg #[(.bool false), (.bool false), (.int .i64 0), (.int .i64 0), (.int .i64 0), (.slice none 0 0)]) 56 info46 rfl (by decide) (by omega) z46 (ok := fun _ => True) (okp := fun _ => True) (k46_mkM _ _ _ z46 (Kd.R_nil _ _ _ _ _)) (fun _ hk => hk) trivial (td) (Nat.le_trans (Nat.mul_le_mul_right _ (td : (l0.length : Int).toNat ≤ 5026338869833)) (by omega)) (Below.refl _ _) (Nat.le_refl _) ?_; intro v723 w4 ho5 hb hg_ hnew_; clear hg_ hnew_; (first | rw [← Ny722.out] at ho5 | (simp only [Int.reduceToNat] at ho5; rw [← Ny722.out] at ho5)); have HO724 := tRl ho5 HB; replace HB := tBs HB hb; clear hb ho5))
   go_loopg [4] k (fun kq v4 w' => ∃ (x3_1 : List (S46)) (x4_1 : Int), v4 = .int .i64 x4_1 ∧ Aside0 (laws_toBatchS.l0 kq l0 x3_1 x4_1 = some r) ∧ Aside0 (kq ≤ k) ∧ Aside0 (Kd.R k46 46 w' w.heap.size (fun _ => True) v723 x3_1) ∧ Aside0 (Below w.heap.size w w'))
   case atStart => exact ⟨(y722), (0), tr, H', ⟨Nat.le_refl _⟩, ⟨tR HO724.out⟩, ⟨zb⟩⟩
   case round =>
    clear H'
    try clear c2; try clear c2b0; try clear c2b1; try clear c3; try clear c3b0; try clear c3b1
    obtain ⟨x3_1, x4_1, rfl, HA, HK1, HO_3, HB⟩ := hrel
    cases gk with
    | zero => exact absurd HA.out (by simp [laws_toBatchS.l0])
    | succ k1 =>
     have H := HA.out
     clear HA
     simp only [laws_toBatchS.l0] at H
     by_cases c6 : x4_1 < (l0.length : Int)
     ·rw [if_pos c6] at H
      have c6b0 : decide (x4_1 < (l0.length : Int)) = true := decide_eq_true c6
      clear c6
      by_cases c7 : 0 ≤ x4_1
      ·rw [if_pos c7] at H
       have c7b0 : decide (0 ≤ x4_1) = true := decide_eq_true c7
       clear c7
       replace H := tbe H
       obtain ⟨⟨t726, t727, t728, t729, t730, t731⟩, A8, H⟩ := H
       dsimp only at H
       by_cases c9 : x4_1 < (x3_1.length : Int)
       ·rw [if_pos c9] at H
        have c9b0 : decide (x4_1 < (x3_1.length : Int)) = true := decide_eq_true c9
        clear c9
        obtain ⟨y734, hy734⟩ : ∃ y_ : List (S46), y_ = (x3_1.set (x4_1 : Int).toNat (⟨t726, t727, t728, t729, t730, t731⟩ : S46)) := ⟨_, rfl⟩
        replace H : (laws_toBatchS.l0 k1 l0 y734 (wrap64 (x4_1 + 1))) = some r := by first | (rw [hy734]; with_reducible exact H) | (have H2_ := (Option.bind_some _ _).symm.trans H; rw [hy734]; with_reducible exact H2_) | (have H2_ := (Option.bind_some _ _).symm.trans H; with_reducible exact H2_) | with_reducible exact H | (rw [hy734]; exact H) | exact H
        have Ny734 := Aside0.mk hy734
        clear hy734
        have H' := Aside0.mk H
        clear H
        have p725 : 0 ≤ (x4_1 : Int) := td
        have q725 : x4_1 < (l0.length : Int) := td
        obtain ⟨ad725, A725_5, c725_5, e725, hx725_0, hx725_1, hx725_2, hx725_3, hx725_4, hx725_5, hl725_5, hi725_5⟩ := at_T56 HR0.out x4_1 p725 q725
        cases e725
        replace hx725_0 := tcl HB hx725_0
        replace hx725_1 := tcl HB hx725_1
        replace hx725_2 := tcl HB hx725_2
        replace hx725_3 := tcl HB hx725_3
        replace hx725_4 := tcl HB hx725_4
        replace hx725_5 := tcl HB hx725_5
        have HR725_5 := Aside0.mk hi725_5
        have HC725_5 := Aside0.mk hl725_5
        clear hi725_5 hl725_5
        replace p725 := eq_true p725
        replace q725 := eq_true q725
        go_wp2_with (first | ((with_reducible refine gate_callee (f := 32) rfl ?_); refine goesL_ (some 20) rfl rfl Try.func32 (by kernel_rfl) rfl #[.agg #[.bool ((rd_T56 l0 x4_1).f0), .bool ((rd_T56 l0 x4_1).f1), .int .i64 ((rd_T56 l0 x4_1).f2), .int .i64 ((rd_T56 l0 x4_1).f3), .int .i64 ((rd_T56 l0 x4_1).f4), .slice A725_5 ((rd_T56 l0 x4_1).f5).length c725_5]] rfl tq ?_; (with_reducible refine (laws_toBatch.calls k1 ((rd_T56 l0 x4_1).f0) ((rd_T56 l0 x4_1).f1) ((rd_T56 l0 x4_1).f2) ((rd_T56 l0 x4_1).f3) ((rd_T56 l0 x4_1).f4) _ _ ((rd_T56 l0 x4_1).f5) t726 t727 t728 t729 t730 t731 _ ?side1 ?side2 A8.out).mono ?_); (case side1 => exact tC (Kd.C_below HR725_5.out HB.out)); (case side2 => exact HC725_5.out); rintro e w11 ⟨v732, rfl, ho0, hb⟩; have u_v732 := tsv Try.prog v732 ho0; refine ⟨_, rfl, ?_⟩; replace HO_3 := Aside0.mk (Kd.R_elder' (tR HO_3.out) (Kd.S_base ho0) hb); have HO733 := tSl ho0 HB; replace HB := tBs HB hb; (try clear hb); (try clear hb2); (try clear hk); (try clear hi); (try clear ho0); have p10 : 0 ≤ (x4_1 : Int) := td; have q10 : (x4_1 : Int) < ((x3_1.length : Int) : Int) := td; obtain ⟨go10, co10, eo10, gb10, gl10, cl10, HG10⟩ := Kd.R_form HO_3.out (by omega); (first | cases eo10 | (injection eo10 with ea_ en_ ec_; (first | subst ea_ | (injection ea_ with ea_; subst ea_)); subst ec_; clear en_)); have GB10 := Aside0.mk gb10; have GG10 := Aside0.mk HG10; clear gb10 gl10 HG10; obtain ⟨ce10, hcl10, hM10, hcc10, hfr10⟩ := Kd.R_elem HO_3.out z46 (x4_1 : Int) p10 q10; obtain ⟨ve10_5, rfl, ge10_5⟩ := k46_openM hM10; have hx10_0 : w11.cell? ⟨go10, (x4_1 : Int).toNat * 6, none⟩ = some (.bool ((rd_T46 x3_1 x4_1).f0)) := hcc10 0 _ rfl; have hx10_1 : w11.cell? ⟨go10, (x4_1 : Int).toNat * 6 + 1, none⟩ = some (.bool ((rd_T46 x3_1 x4_1).f1)) := hcc10 1 _ rfl; have hx10_2 : w11.cell? ⟨go10, (x4_1 : Int).toNat * 6 + 2, none⟩ = some (.int .i64 ((rd_T46 x3_1 x4_1).f2)) := hcc10 2 _ rfl; have hx10_3 : w11.cell? ⟨go10, (x4_1 : Int).toNat * 6 + 3, none⟩ = some (.int .i64 ((rd_T46 x3_1 x4_1).f3)) := hcc10 3 _ rfl; have hx10_4 : w11.cell? ⟨go10, (x4_1 : Int).toNat * 6 + 4, none⟩ = some (.int .i64 ((rd_T46 x3_1 x4_1).f4)) := hcc10 4 _ rfl; have hx10_5 : w11.cell? ⟨go10, (x4_1 : Int).toNat * 6 + 5, none⟩ = some (ve10_5) := hcc10 5 _ rfl; have hf10_0 : w11.frozen? ⟨go10, (x4_1 : Int).toNat * 6, none⟩ = false := hfr10 0; have hf10_1 : w11.frozen? ⟨go10, (x4_1 : Int).toNat * 6 + 1, none⟩ = false := hfr10 1; have hf10_2 : w11.frozen? ⟨go10, (x4_1 : Int).toNat * 6 + 2, none⟩ = false := hfr10 2; have hf10_3 : w11.frozen? ⟨go10, (x4_1 : Int).toNat * 6 + 3, none⟩ = false := hfr10 3; have hf10_4 : w11.frozen? ⟨go10, (x4_1 : Int).toNat * 6 + 4, none⟩ = false := hfr10 4; have hf10_5 : w11.frozen? ⟨go10, (x4_1 : Int).toNat * 6 + 5, none⟩ = false := hfr10 5; clear hcl10 hcc10 hfr10 hM10; replace p10 := eq_true p10; replace q10 := eq_true q10; have n_ := Aside0.mk (Kd.R_mono (ok' := (fun k_ => some k_ ≠ (v732 : Value).ownBlock)) HO_3.out (fun k_ hk => hk.2)); clear HO_3; have HO_3 := n_; clear n_; have HX12 := Aside0.mk (show Kd.R k46 46 w11 w.heap.size (fun _ => True) (.slice (some ⟨go10, 0, none⟩) x3_1.length co10) x3_1 from (tRm HO_3.out)); obtain ⟨ce12, hcl12, hM12, hcc12, hfr12⟩ := Kd.R_elem HX12.out z46 (x4_1 : Int) (td) (by have h_ : (x4_1 : Int) < ((x3_1.length : Int) : Int) := td; first | exact h_ | (have e_ := (Kd.R_reads' HO_3.out).1; omega) | simpa using h_); obtain ⟨ve12_5, rfl, ge12_5⟩ := k46_openM hM12; have HP12 := Kd.R_seg HX12.out (x4_1 : Int) (td) (by have h_ : (x4_1 : Int) < ((x3_1.length : Int) : Int) := td; first | exact h_ | (have e_ := (Kd.R_reads' HO_3.out).1; omega) | simpa using h_) (seg := [.bool t726, .bool t727, .int .i64 t728, .int .i64 t729, .int .i64 t730, v732]) (j := 0) hcl12 hcc12 (show 6 ≤ 6 from by decide) (x' := (⟨t726, t727, t728, t729, t730, t731⟩ : S46)) (k46_mkM _ _ _ (⟨t726, t727, t728, t729, t730, t731⟩ : S46) (Kd.R_mono (Kd.R_apart' ((Kd.S_R HO733.out)) (Kd.R_typed HO_3.out) (by decide)) (fun k_ hk => ⟨trivial, fun e_ => (hk.2) (by rw [e_]; rfl)⟩))) (fun _ hk => hk); have hx12_0 := hcc12 0 _ rfl; (try simp only [show (k46).sz = 6 from rfl, Nat.mul_one, Nat.add_zero] at hx12_0); have hf12_0 := hfr12 0; (try simp only [show (k46).sz = 6 from rfl, Nat.mul_one, Nat.add_zero] at hf12_0); have hx12_1 := hcc12 1 _ rfl; (try simp only [show (k46).sz = 6 from rfl, Nat.mul_one, Nat.add_zero] at hx12_1); have hf12_1 := hfr12 1; (try simp only [show (k46).sz = 6 from rfl, Nat.mul_one, Nat.add_zero] at hf12_1); have hx12_2 := hcc12 2 _ rfl; (try simp only [show (k46).sz = 6 from rfl, Nat.mul_one, Nat.add_zero] at hx12_2); have hf12_2 := hfr12 2; (try simp only [show (k46).sz = 6 from rfl, Nat.mul_one, Nat.add_zero] at hf12_2); have hx12_3 := hcc12 3 _ rfl; (try simp only [show (k46).sz = 6 from rfl, Nat.mul_one, Nat.add_zero] at hx12_3); have hf12_3 := hfr12 3; (try simp only [show (k46).sz = 6 from rfl, Nat.mul_one, Nat.add_zero] at hf12_3); have hx12_4 := hcc12 4 _ rfl; (try simp only [show (k46).sz = 6 from rfl, Nat.mul_one, Nat.add_zero] at hx12_4); have hf12_4 := hfr12 4; (try simp only [show (k46).sz = 6 from rfl, Nat.mul_one, Nat.add_zero] at hf12_4); have hx12_5 := hcc12 5 _ rfl; (try simp only [show (k46).sz = 6 from rfl, Nat.mul_one, Nat.add_zero] at hx12_5); have hf12_5 := hfr12 5; (try simp only [show (k46).sz = 6 from rfl, Nat.mul_one, Nat.add_zero] at hf12_5); clear hcl12 hcc12 hfr12 hM12) | ((with_reducible refine gate_store (t := 46) (p := 21) rfl ?_); refine store_event (t := 46) (p := 21) (v := ?vo_w13) (w1 := ((((((w11.setCell ⟨go10, (x4_1 : Int).toNat * 6, none⟩ (.bool t726)).setCell ⟨go10, (x4_1 : Int).toNat * 6 + 1, none⟩ (.bool t727)).setCell ⟨go10, (x4_1 : Int).toNat * 6 + 2, none⟩ (.int .i64 t728)).setCell ⟨go10, (x4_1 : Int).toNat * 6 + 3, none⟩ (.int .i64 t729)).setCell ⟨go10, (x4_1 : Int).toNat * 6 + 4, none⟩ (.int .i64 t730)).setCell ⟨go10, (x4_1 : Int).toNat * 6 + 5, none⟩ (v732))) ?hg ?ho ?hn ?hr ?_; (case ho => rfl); (case hg => rfl); (case hn => rfl); (case hr => first | (go_simp; done) | (go_simp; rfl)); intro w13 hw; have hg : w11.grownBy w13 (some go10) := (by rw [hw]; exact HP12.2); have hp_ : Kd.R k46 46 w13 w.heap.size (fun _ => True) (.slice (some ⟨go10, 0, none⟩) x3_1.length co10) y734 := (by rw [hw, Ny734.out]; exact HP12.1); clear HP12; replace HO_3 := Aside0.mk (hp_); replace HB := Aside0.mk ((by rw [hw]; exact below_set (below_set (below_set (below_set (below_set (below_set (HB.out) GB10.out) GB10.out) GB10.out) GB10.out) GB10.out) GB10.out : Below w.heap.size w w13)); clear HO733; clear hg hw hp_))
        go_roundg k1
        case measure => have := HK1.out; omega
        case rel => exact ⟨(y734), (wrap64 (x4_1 + 1)), tr, H', ⟨by have := HK1.out; omega⟩, ⟨tR HO_3.out⟩, ⟨zb⟩⟩
       ·rw [if_neg c9] at H
        exact absurd H (by simp)
      ·rw [if_neg c7] at H
       exact absurd H (by simp)
     ·rw [if_neg c6] at H
      have c6b0 : decide (x4_1 < (l0.length : Int)) = false := decide_eq_false c6
      clear c6
      obtain rfl := Option.some.inj H
      go_wp2
      go_ret
      exact ⟨_, by first | rfl | (simp [errW_none, errW_some] <;> rfl) | (simp [*, errW_none, errW_some] <;> rfl), tR HO_3.out, zb⟩
  ·rw [if_neg c3] at H
   exact absurd H (by simp)
 ·rw [if_neg c2] at H
  exact absurd H (by simp)

def laws_eqIntS.l0 : Nat → List Int → List Int → Int → Option (Bool)
 | 0, _, _, _ => none
 | k + 1, x0, x1, x5 => if x5 < (x0.length : Int) then (if 0 ≤ x5 then (if x5 < (x1.length : Int) then (if (rd x0 x5) = (rd x1 x5) then (laws_eqIntS.l0 k x0 x1 (wrap64 (x5 + 1))) else (some false)) else (none)) else (none)) else (some true)
def laws_eqIntS.f (k : Nat) (l0 : List Int) (l1 : List Int) : Option (Bool) := if (l0.length : Int) = (l1.length : Int) then (laws_eqIntS.l0 k l0 l1 0) else (some false)
set_option maxHeartbeats 8000000 in
set_option maxRecDepth 100000 in
theorem laws_eqIntS.calls (k : Nat) (A0 : Option Addr) (c0 : Nat) (l0 : List Int) (A1 : Option Addr) (c1 : Nat) (l1 : List Int) (r : Bool) (w : World) (hr0 : Kd.C (Kd.int .i64) w A0 l0.length l0) (hc0 : l0.length ≤ c0) (hr1 : Kd.C (Kd.int .i64) w A1 l1.length l1) (hc1 : l1.length ≤ c1) (h : laws_eqIntS.f k l0 l1 = some r) :
  Calls Try.prog 80 #[.slice A0 l0.length c0, .slice A1 l1.length c1] w fun e w' => e = .returned (.bool r) ∧ Drawn0 w w' := by
 have HR0 := Aside0.mk hr0
 have HC0 := Aside0.mk hc0
 clear hr0 hc0
 have HR1 := Aside0.mk hr1
 have HC1 := Aside0.mk hc1
 clear hr1 hc1
 have H : (if (l0.length : Int) = (l1.length : Int) then (laws_eqIntS.l0 k l0 l1 0) else (some false)) = some r := h
 clear h
 by_cases c3 : (l0.length : Int) = (l1.length : Int)
 ·rw [if_pos c3] at H
  have c3b0 : ((l0.length : Int) == (l1.length : Int)) = true := beq_iff_eq.mpr c3
  have c3b1 : ((l0.length : Int) != (l1.length : Int)) = false := bne_eq_false_iff_eq.mpr c3
  have c3b2 : (l0.length == l1.length) = true := by first | simpa using c3 | (simp at c3 ⊢; omega)
  clear c3
  have H' := Aside0.mk H
  clear H
  go_enter Try.func80, Try.ntmps80
  go_wp2
  repeat (go_quiet (fail); try go_wp2)
  go_loopg [5] k (fun kq v5 w' => ∃ (x5_1 : Int), v5 = .int .i64 x5_1 ∧ Aside0 (laws_eqIntS.l0 kq l0 l1 x5_1 = some r) ∧ Aside0 (kq ≤ k) ∧ Drawn0 w w')
  case atStart => exact ⟨(0), tr, H', ⟨Nat.le_refl _⟩, by repeat (first | exact Drawn0.refl _ | apply Drawn0.step)⟩
  case round =>
   clear H'
   try clear c1; try clear c3; try clear c3b0; try clear c3b1; try clear c3b2
   obtain ⟨x5_1, rfl, HA, HK1, ⟨m1, rfl⟩⟩ := hrel
   cases gk with
   | zero => exact absurd HA.out (by simp [laws_eqIntS.l0])
   | succ k1 =>
    have H := HA.out
    clear HA
    simp only [laws_eqIntS.l0] at H
    by_cases c4 : x5_1 < (l0.length : Int)
    ·rw [if_pos c4] at H
     have c4b0 : decide (x5_1 < (l0.length : Int)) = true := decide_eq_true c4
     clear c4
     by_cases c5 : 0 ≤ x5_1
     ·rw [if_pos c5] at H
      have c5b0 : decide (0 ≤ x5_1) = true := decide_eq_true c5
      clear c5
      by_cases c6 : x5_1 < (l1.length : Int)
      ·rw [if_pos c6] at H
       have c6b0 : decide (x5_1 < (l1.length : Int)) = true := decide_eq_true c6
       clear c6
       by_cases c7 : (rd l0 x5_1) = (rd l1 x5_1)
       ·rw [if_pos c7] at H
        have c7b0 : ((rd l0 x5_1) == (rd l1 x5_1)) = true := beq_iff_eq.mpr c7
        have c7b1 : ((rd l0 x5_1) != (rd l1 x5_1)) = false := bne_eq_false_iff_eq.mpr c7
        clear c7
        have H' := Aside0.mk H
        clear H
        have p735 : 0 ≤ (x5_1 : Int) := td
        have q735 : x5_1 < (l0.length : Int) := td
        obtain ⟨ad735, e735, hx735_0⟩ := Kd.at_int HR0.out x5_1 p735 q735
        cases e735
        replace p735 := eq_true p735
        replace q735 := eq_true q735
        have p736 : 0 ≤ (x5_1 : Int) := td
        have q736 : x5_1 < (l1.length : Int) := td
        obtain ⟨ad736, e736, hx736_0⟩ := Kd.at_int HR1.out x5_1 p736 q736
        cases e736
        replace p736 := eq_true p736
        replace q736 := eq_true q736
        go_wp2
        repeat (go_quiet (fail); try go_wp2)
        go_roundg k1
        case measure => have := HK1.out; omega
        case rel => exact ⟨(wrap64 (x5_1 + 1)), tr, H', ⟨by have := HK1.out; omega⟩, by repeat (first | exact Drawn0.refl _ | apply Drawn0.step)⟩
       ·rw [if_neg c7] at H
        have c7b0 : ((rd l0 x5_1) == (rd l1 x5_1)) = false := beq_eq_false_iff_ne.mpr c7
        have c7b1 : ((rd l0 x5_1) != (rd l1 x5_1)) = true := bne_iff_ne.mpr c7
        obtain rfl := Option.some.inj H
        have p735 : 0 ≤ (x5_1 : Int) := td
        have q735 : x5_1 < (l0.length : Int) := td
        obtain ⟨ad735, e735, hx735_0⟩ := Kd.at_int HR0.out x5_1 p735 q735
        cases e735
        replace p735 := eq_true p735
        replace q735 := eq_true q735
        have p736 : 0 ≤ (x5_1 : Int) := td
        have q736 : x5_1 < (l1.length : Int) := td
        obtain ⟨ad736, e736, hx736_0⟩ := Kd.at_int HR1.out x5_1 p736 q736
        cases e736
        replace p736 := eq_true p736
        replace q736 := eq_true q736
        go_wp2
        repeat (go_quiet (fail); try go_wp2)
        go_ret
        exact ⟨by first | rfl | (simp; done) | (simp [*]; done), by repeat (first | exact Drawn0.refl _ | apply Drawn0.step)⟩
      ·rw [if_neg c6] at H
       exact absurd H (by simp)
     ·rw [if_neg c5] at H
      exact absurd H (by simp)
    ·rw [if_neg c4] at H
     have c4b0 : decide (x5_1 < (l0.length : Int)) = false := decide_eq_false c4
     clear c4
     obtain rfl := Option.some.inj H
     go_wp2
     repeat (go_quiet (fail); try go_wp2)
     go_ret
     exact ⟨by first | rfl | (simp; done) | (simp [*]; done), by repeat (first | exact Drawn0.refl _ | apply Drawn0.step)⟩
 ·rw [if_neg c3] at H
  have c3b0 : ((l0.length : Int) == (l1.length : Int)) = false := beq_eq_false_iff_ne.mpr c3
  have c3b1 : ((l0.length : Int) != (l1.length : Int)) = true := bne_iff_ne.mpr c3
  have c3b2 : (l0.length == l1.length) = false := by first | simpa using c3 | (simp at c3 ⊢; omega)
  obtain rfl := Option.some.inj H
  go_enter Try.func80, Try.ntmps80
  go_wp2
  repeat (go_quiet (fail); try go_wp2)
  go_ret
  exact ⟨by first | rfl | (simp; done) | (simp [*]; done), by repeat (first | exact Drawn0.refl _ | apply Drawn0.step)⟩

def laws_eqRecord.f (k : Nat) (a0_0 : Int) (a0_1 : Int) (a0_2 : Bool) (l0_3 : List Int) (a0_4 : Bool) (l0_5 : List Int) (a1_0 : Int) (a1_1 : Int) (a1_2 : Bool) (l1_3 : List Int) (a1_4 : Bool) (l1_5 : List Int) : Option (Bool) := if a0_0 = a1_0 then (if a0_1 = a1_1 then (if (a0_2 != a1_2) = true then (some false) else ((laws_eqIntS.f k l0_3 l1_3).bind fun t739 => (if t739 = true then (if (a0_4 != a1_4) = true then (some false) else ((laws_eqIntS.f k l0_5 l1_5).bind fun t740 => (if t740 = true then (some true) else (some false)))) else (some false)))) else (some false)) else (some false)
set_option maxHeartbeats 8000000 in
set_option maxRecDepth 100000 in
theorem laws_eqRecord.calls (k : Nat) (a0_0 : Int) (a0_1 : Int) (a0_2 : Bool) (A0_3 : Option Addr) (c0_3 : Nat) (l0_3 : List Int) (a0_4 : Bool) (A0_5 : Option Addr) (c0_5 : Nat) (l0_5 : List Int) (a1_0 : Int) (a1_1 : Int) (a1_2 : Bool) (A1_3 : Option Addr) (c1_3 : Nat) (l1_3 : List Int) (a1_4 : Bool) (A1_5 : Option Addr) (c1_5 : Nat) (l1_5 : List Int) (r : Bool) (w : World) (hr0_3 : Kd.C (Kd.int .i64) w A0_3 l0_3.length l0_3) (hc0_3 : l0_3.length ≤ c0_3) (hr0_5 : Kd.C (Kd.int .i64) w A0_5 l0_5.length l0_5) (hc0_5 : l0_5.length ≤ c0_5) (hr1_3 : Kd.C (Kd.int .i64) w A1_3 l1_3.length l1_3) (hc1_3 : l1_3.length ≤ c1_3) (hr1_5 : Kd.C (Kd.int .i64) w A1_5 l1_5.length l1_5) (hc1_5 : l1_5.length ≤ c1_5) (h : laws_eqRecord.f k a0_0 a0_1 a0_2 l0_3 a0_4 l0_5 a1_0 a1_1 a1_2 l1_3 a1_4 l1_5 = some r) :
  Calls Try.prog 68 #[.agg #[.int .i64 a0_0, .int .i64 a0_1, .bool a0_2, .slice A0_3 l0_3.length c0_3, .bool a0_4, .slice A0_5 l0_5.length c0_5], .agg #[.int .i64 a1_0, .int .i64 a1_1, .bool a1_2, .slice A1_3 l1_3.length c1_3, .bool a1_4, .slice A1_5 l1_5.length c1_5]] w fun e w' => e = .returned (.bool r) ∧ Below w.heap.size w w' := by
 have hu63 := Try.underlying63
 have HR0_3 := Aside0.mk hr0_3
 have HC0_3 := Aside0.mk hc0_3
 clear hr0_3 hc0_3
 have HR0_5 := Aside0.mk hr0_5
 have HC0_5 := Aside0.mk hc0_5
 clear hr0_5 hc0_5
 have HR1_3 := Aside0.mk hr1_3
 have HC1_3 := Aside0.mk hc1_3
 clear hr1_3 hc1_3
 have HR1_5 := Aside0.mk hr1_5
 have HC1_5 := Aside0.mk hc1_5
 clear hr1_5 hc1_5
 have HB := Aside0.mk (Below.refl w.heap.size w)
 have H : (if a0_0 = a1_0 then (if a0_1 = a1_1 then (if (a0_2 != a1_2) = true then (some false) else ((laws_eqIntS.f k l0_3 l1_3).bind fun t739 => (if t739 = true then (if (a0_4 != a1_4) = true then (some false) else ((laws_eqIntS.f k l0_5 l1_5).bind fun t740 => (if t740 = true then (some true) else (some false)))) else (some false)))) else (some false)) else (some false)) = some r := h
 clear h
 by_cases c3 : a0_0 = a1_0
 ·rw [if_pos c3] at H
  have c3b0 : (a0_0 == a1_0) = true := beq_iff_eq.mpr c3
  have c3b1 : (a0_0 != a1_0) = false := bne_eq_false_iff_eq.mpr c3
  clear c3
  by_cases c4 : a0_1 = a1_1
  ·rw [if_pos c4] at H
   have c4b0 : (a0_1 == a1_1) = true := beq_iff_eq.mpr c4
   have c4b1 : (a0_1 != a1_1) = false := bne_eq_false_iff_eq.mpr c4
   clear c4
   by_cases c5 : (a0_2 != a1_2) = true
   ·rw [if_pos c5] at H
    have c5b0 : (a0_2 != a1_2) = true := c5
    (try (have c5b1 : decide (a0_2 = a1_2) = false := by simpa using c5))
    (try (have c5b2 : (a0_2 == a1_2) = false := by simpa using c5))
    (try (have c5b3 : ¬ (a0_2 = a1_2) := by simpa using c5))
    clear c5
    obtain rfl := Option.some.inj H
    go_enter Try.func68, Try.ntmps68
    go_wp2_with (first | ((with_reducible refine gate_dst (N := 2) rfl ?_); refine box_event ?hg (N := 2) ?hd (cs := #[.int .i64 a0_0, .int .i64 a0_1, .bool a0_2, .slice A0_3 l0_3.length c0_3, .bool a0_4, .slice A0_5 l0_5.length c0_5]) (t := 63) ?hr ?_; (case hd => rfl); (case hg => rfl); (case hr => first | (go_simp; done) | (go_simp; rfl)); intro gb737 hg w6 hbox hb; have BK737 := Aside0.mk (hbox); have GW737 := tge HB hg; have GE737 := tge HB hg; replace HB := tBs HB hb; clear hb hbox hg) | ((with_reducible refine gate_dst (N := 3) rfl ?_); refine box_event ?hg (N := 3) ?hd (cs := #[.int .i64 a1_0, .int .i64 a1_1, .bool a1_2, .slice A1_3 l1_3.length c1_3, .bool a1_4, .slice A1_5 l1_5.length c1_5]) (t := 63) ?hr ?_; (case hd => rfl); (case hg => rfl); (case hr => first | (go_simp; done) | (go_simp; rfl)); intro gb738 hg w7 hbox hb; have BK738 := Aside0.mk (hbox); have GW738 := tge HB hg; have GE738 := tge HB hg; replace HB := tBs HB hb; have NB737_738 := tlt BK737 hg; have NB738_737 := tgt BK737 hg; replace BK737 := tBb BK737 hb; clear hb hbox hg; have hnb8 := NB737_738.out; have hnc8 := NB738_737.out; obtain ⟨hcz9_0, hcz9_1, hcz9_2, hcz9_3, hcz9_4, hcz9_5, hfz9_0, hfz9_1, hfz9_2, hfz9_3, hfz9_4, hfz9_5⟩ := cells6 BK737.out; obtain ⟨hcz10_0, hcz10_1, hcz10_2, hcz10_3, hcz10_4, hcz10_5, hfz10_0, hfz10_1, hfz10_2, hfz10_3, hfz10_4, hfz10_5⟩ := cells6 BK738.out))
    go_ret
    exact ⟨by first | rfl | (simp [errW_none, errW_some] <;> rfl) | (simp [*, errW_none, errW_some] <;> rfl), zb⟩
   ·rw [if_neg c5] at H
    have c5b0 : (a0_2 != a1_2) = false := by simpa using c5
    (try (have c5b1 : decide (a0_2 = a1_2) = true := by simpa using c5))
    (try (have c5b2 : (a0_2 == a1_2) = true := by simpa using c5))
    clear c5
    replace H := tbe H
    obtain ⟨t739, A11, H⟩ := H
    by_cases c12 : t739 = true
    ·subst c12
     rw [if_pos rfl] at H
     by_cases c13 : (a0_4 != a1_4) = true
     ·rw [if_pos c13] at H
      have c13b0 : (a0_4 != a1_4) = true := c13
      (try (have c13b1 : decide (a0_4 = a1_4) = false := by simpa using c13))
      (try (have c13b2 : (a0_4 == a1_4) = false := by simpa using c13))
      (try (have c13b3 : ¬ (a0_4 = a1_4) := by simpa using c13))
      clear c13
      obtain rfl := Option.some.inj H
      go_enter Try.func68, Try.ntmps68
      go_wp2_with (first | ((with_reducible refine gate_dst (N := 2) rfl ?_); refine box_event ?hg (N := 2) ?hd (cs := #[.int .i64 a0_0, .int .i64 a0_1, .bool a0_2, .slice A0_3 l0_3.length c0_3, .bool a0_4, .slice A0_5 l0_5.length c0_5]) (t := 63) ?hr ?_; (case hd => rfl); (case hg => rfl); (case hr => first | (go_simp; done) | (go_simp; rfl)); intro gb737 hg w14 hbox hb; have BK737 := Aside0.mk (hbox); have GW737 := tge HB hg; have GE737 := tge HB hg; replace HB := tBs HB hb; clear hb hbox hg) | ((with_reducible refine gate_dst (N := 3) rfl ?_); refine box_event ?hg (N := 3) ?hd (cs := #[.int .i64 a1_0, .int .i64 a1_1, .bool a1_2, .slice A1_3 l1_3.length c1_3, .bool a1_4, .slice A1_5 l1_5.length c1_5]) (t := 63) ?hr ?_; (case hd => rfl); (case hg => rfl); (case hr => first | (go_simp; done) | (go_simp; rfl)); intro gb738 hg w15 hbox hb; have BK738 := Aside0.mk (hbox); have GW738 := tge HB hg; have GE738 := tge HB hg; replace HB := tBs HB hb; have NB737_738 := tlt BK737 hg; have NB738_737 := tgt BK737 hg; replace BK737 := tBb BK737 hb; clear hb hbox hg; have hnb16 := NB737_738.out; have hnc16 := NB738_737.out; obtain ⟨hcz17_0, hcz17_1, hcz17_2, hcz17_3, hcz17_4, hcz17_5, hfz17_0, hfz17_1, hfz17_2, hfz17_3, hfz17_4, hfz17_5⟩ := cells6 BK737.out; obtain ⟨hcz18_0, hcz18_1, hcz18_2, hcz18_3, hcz18_4, hcz18_5, hfz18_0, hfz18_1, hfz18_2, hfz18_3, hfz18_4, hfz18_5⟩ := cells6 BK738.out) | ((with_reducible refine gate_callee (f := 80) rfl ?_); refine goesL_ (some 24) rfl rfl Try.func80 (by kernel_rfl) rfl #[.slice A0_3 l0_3.length c0_3, .slice A1_3 l1_3.length c1_3] rfl tq ?_; (with_reducible refine (laws_eqIntS.calls k _ _ l0_3 _ _ l1_3 true _ ?side1 ?side2 ?side3 ?side4 A11.out).mono ?_); (case side1 => exact tC (Kd.C_below HR0_3.out HB.out)); (case side2 => exact HC0_3.out); (case side3 => exact tC (Kd.C_below HR1_3.out HB.out)); (case side4 => exact HC1_3.out); rintro e w' ⟨rfl, ⟨nd, rfl⟩⟩; refine ⟨_, rfl, ?_⟩))
      go_ret
      exact ⟨by first | rfl | (simp [errW_none, errW_some] <;> rfl) | (simp [*, errW_none, errW_some] <;> rfl), zb⟩
     ·rw [if_neg c13] at H
      have c13b0 : (a0_4 != a1_4) = false := by simpa using c13
      (try (have c13b1 : decide (a0_4 = a1_4) = true := by simpa using c13))
      (try (have c13b2 : (a0_4 == a1_4) = true := by simpa using c13))
      clear c13
      replace H := tbe H
      obtain ⟨t740, A19, H⟩ := H
      by_cases c20 : t740 = true
      ·subst c20
       rw [if_pos rfl] at H
       obtain rfl := Option.some.inj H
       go_enter Try.func68, Try.ntmps68
       go_wp2_with (first | ((with_reducible refine gate_dst (N := 2) rfl ?_); refine box_event ?hg (N := 2) ?hd (cs := #[.int .i64 a0_0, .int .i64 a0_1, .bool a0_2, .slice A0_3 l0_3.length c0_3, .bool a0_4, .slice A0_5 l0_5.length c0_5]) (t := 63) ?hr ?_; (case hd => rfl); (case hg => rfl); (case hr => first | (go_simp; done) | (go_simp; rfl)); intro gb737 hg w21 hbox hb; have BK737 := Aside0.mk (hbox); have GW737 := tge HB hg; have GE737 := tge HB hg; replace HB := tBs HB hb; clear hb hbox hg) | ((with_reducible refine gate_dst (N := 3) rfl ?_); refine box_event ?hg (N := 3) ?hd (cs := #[.int .i64 a1_0, .int .i64 a1_1, .bool a1_2, .slice A1_3 l1_3.length c1_3, .bool a1_4, .slice A1_5 l1_5.length c1_5]) (t := 63) ?hr ?_; (case hd => rfl); (case hg => rfl); (case hr => first | (go_simp; done) | (go_simp; rfl)); intro gb738 hg w22 hbox hb; have BK738 := Aside0.mk (hbox); have GW738 := tge HB hg; have GE738 := tge HB hg; replace HB := tBs HB hb; have NB737_738 := tlt BK737 hg; have NB738_737 := tgt BK737 hg; replace BK737 := tBb BK737 hb; clear hb hbox hg; have hnb23 := NB737_738.out; have hnc23 := NB738_737.out; obtain ⟨hcz24_0, hcz24_1, hcz24_2, hcz24_3, hcz24_4, hcz24_5, hfz24_0, hfz24_1, hfz24_2, hfz24_3, hfz24_4, hfz24_5⟩ := cells6 BK737.out; obtain ⟨hcz25_0, hcz25_1, hcz25_2, hcz25_3, hcz25_4, hcz25_5, hfz25_0, hfz25_1, hfz25_2, hfz25_3, hfz25_4, hfz25_5⟩ := cells6 BK738.out) | ((with_reducible refine gate_callee (f := 80) rfl ?_); refine goesL_ (some 24) rfl rfl Try.func80 (by kernel_rfl) rfl #[.slice A0_3 l0_3.length c0_3, .slice A1_3 l1_3.length c1_3] rfl tq ?_; (with_reducible refine (laws_eqIntS.calls k _ _ l0_3 _ _ l1_3 true _ ?side1 ?side2 ?side3 ?side4 A11.out).mono ?_); (case side1 => exact tC (Kd.C_below HR0_3.out HB.out)); (case side2 => exact HC0_3.out); (case side3 => exact tC (Kd.C_below HR1_3.out HB.out)); (case side4 => exact HC1_3.out); rintro e w' ⟨rfl, ⟨nd, rfl⟩⟩; refine ⟨_, rfl, ?_⟩) | ((with_reducible refine gate_callee (f := 80) rfl ?_); refine goesL_ (some 35) rfl rfl Try.func80 (by kernel_rfl) rfl #[.slice A0_5 l0_5.length c0_5, .slice A1_5 l1_5.length c1_5] rfl tq ?_; (with_reducible refine (laws_eqIntS.calls k _ _ l0_5 _ _ l1_5 true _ ?side1 ?side2 ?side3 ?side4 A19.out).mono ?_); (case side1 => exact tC (Kd.C_below HR0_5.out zb)); (case side2 => exact HC0_5.out); (case side3 => exact tC (Kd.C_below HR1_5.out zb)); (case side4 => exact HC1_5.out); rintro e w' ⟨rfl, ⟨nd, rfl⟩⟩; refine ⟨_, rfl, ?_⟩))
       go_ret
       exact ⟨by first | rfl | (simp [errW_none, errW_some] <;> rfl) | (simp [*, errW_none, errW_some] <;> rfl), zb⟩
      ·replace c20 := Bool.eq_false_iff.mpr c20
       subst c20
       rw [if_neg (show ¬ (false = true) by decide)] at H
       obtain rfl := Option.some.inj H
       go_enter Try.func68, Try.ntmps68
       go_wp2_with (first | ((with_reducible refine gate_dst (N := 2) rfl ?_); refine box_event ?hg (N := 2) ?hd (cs := #[.int .i64 a0_0, .int .i64 a0_1, .bool a0_2, .slice A0_3 l0_3.length c0_3, .bool a0_4, .slice A0_5 l0_5.length c0_5]) (t := 63) ?hr ?_; (case hd => rfl); (case hg => rfl); (case hr => first | (go_simp; done) | (go_simp; rfl)); intro gb737 hg w26 hbox hb; have BK737 := Aside0.mk (hbox); have GW737 := tge HB hg; have GE737 := tge HB hg; replace HB := tBs HB hb; clear hb hbox hg) | ((with_reducible refine gate_dst (N := 3) rfl ?_); refine box_event ?hg (N := 3) ?hd (cs := #[.int .i64 a1_0, .int .i64 a1_1, .bool a1_2, .slice A1_3 l1_3.length c1_3, .bool a1_4, .slice A1_5 l1_5.length c1_5]) (t := 63) ?hr ?_; (case hd => rfl); (case hg => rfl); (case hr => first | (go_simp; done) | (go_simp; rfl)); intro gb738 hg w27 hbox hb; have BK738 := Aside0.mk (hbox); have GW738 := tge HB hg; have GE738 := tge HB hg; replace HB := tBs HB hb; have NB737_738 := tlt BK737 hg; have NB738_737 := tgt BK737 hg; replace BK737 := tBb BK737 hb; clear hb hbox hg; have hnb28 := NB737_738.out; have hnc28 := NB738_737.out; obtain ⟨hcz29_0, hcz29_1, hcz29_2, hcz29_3, hcz29_4, hcz29_5, hfz29_0, hfz29_1, hfz29_2, hfz29_3, hfz29_4, hfz29_5⟩ := cells6 BK737.out; obtain ⟨hcz30_0, hcz30_1, hcz30_2, hcz30_3, hcz30_4, hcz30_5, hfz30_0, hfz30_1, hfz30_2, hfz30_3, hfz30_4, hfz30_5⟩ := cells6 BK738.out) | ((with_reducible refine gate_callee (f := 80) rfl ?_); refine goesL_ (some 24) rfl rfl Try.func80 (by kernel_rfl) rfl #[.slice A0_3 l0_3.length c0_3, .slice A1_3 l1_3.length c1_3] rfl tq ?_; (with_reducible refine (laws_eqIntS.calls k _ _ l0_3 _ _ l1_3 true _ ?side1 ?side2 ?side3 ?side4 A11.out).mono ?_); (case side1 => exact tC (Kd.C_below HR0_3.out HB.out)); (case side2 => exact HC0_3.out); (case side3 => exact tC (Kd.C_below HR1_3.out HB.out)); (case side4 => exact HC1_3.out); rintro e w' ⟨rfl, ⟨nd, rfl⟩⟩; refine ⟨_, rfl, ?_⟩) | ((with_reducible refine gate_callee (f := 80) rfl ?_); refine goesL_ (some 35) rfl rfl Try.func80 (by kernel_rfl) rfl #[.slice A0_5 l0_5.length c0_5, .slice A1_5 l1_5.length c1_5] rfl tq ?_; (with_reducible refine (laws_eqIntS.calls k _ _ l0_5 _ _ l1_5 false _ ?side1 ?side2 ?side3 ?side4 A19.out).mono ?_); (case side1 => exact tC (Kd.C_below HR0_5.out zb)); (case side2 => exact HC0_5.out); (case side3 => exact tC (Kd.C_below HR1_5.out zb)); (case side4 => exact HC1_5.out); rintro e w' ⟨rfl, ⟨nd, rfl⟩⟩; refine ⟨_, rfl, ?_⟩))
       go_ret
       exact ⟨by first | rfl | (simp [errW_none, errW_some] <;> rfl) | (simp [*, errW_none, errW_some] <;> rfl), zb⟩
    ·replace c12 := Bool.eq_false_iff.mpr c12
     subst c12
     rw [if_neg (show ¬ (false = true) by decide)] at H
     obtain rfl := Option.some.inj H
     go_enter Try.func68, Try.ntmps68
     go_wp2_with (first | ((with_reducible refine gate_dst (N := 2) rfl ?_); refine box_event ?hg (N := 2) ?hd (cs := #[.int .i64 a0_0, .int .i64 a0_1, .bool a0_2, .slice A0_3 l0_3.length c0_3, .bool a0_4, .slice A0_5 l0_5.length c0_5]) (t := 63) ?hr ?_; (case hd => rfl); (case hg => rfl); (case hr => first | (go_simp; done) | (go_simp; rfl)); intro gb737 hg w31 hbox hb; have BK737 := Aside0.mk (hbox); have GW737 := tge HB hg; have GE737 := tge HB hg; replace HB := tBs HB hb; clear hb hbox hg) | ((with_reducible refine gate_dst (N := 3) rfl ?_); refine box_event ?hg (N := 3) ?hd (cs := #[.int .i64 a1_0, .int .i64 a1_1, .bool a1_2, .slice A1_3 l1_3.length c1_3, .bool a1_4, .slice A1_5 l1_5.length c1_5]) (t := 63) ?hr ?_; (case hd => rfl); (case hg => rfl); (case hr => first | (go_simp; done) | (go_simp; rfl)); intro gb738 hg w32 hbox hb; have BK738 := Aside0.mk (hbox); have GW738 := tge HB hg; have GE738 := tge HB hg; replace HB := tBs HB hb; have NB737_738 := tlt BK737 hg; have NB738_737 := tgt BK737 hg; replace BK737 := tBb BK737 hb; clear hb hbox hg; have hnb33 := NB737_738.out; have hnc33 := NB738_737.out; obtain ⟨hcz34_0, hcz34_1, hcz34_2, hcz34_3, hcz34_4, hcz34_5, hfz34_0, hfz34_1, hfz34_2, hfz34_3, hfz34_4, hfz34_5⟩ := cells6 BK737.out; obtain ⟨hcz35_0, hcz35_1, hcz35_2, hcz35_3, hcz35_4, hcz35_5, hfz35_0, hfz35_1, hfz35_2, hfz35_3, hfz35_4, hfz35_5⟩ := cells6 BK738.out) | ((with_reducible refine gate_callee (f := 80) rfl ?_); refine goesL_ (some 24) rfl rfl Try.func80 (by kernel_rfl) rfl #[.slice A0_3 l0_3.length c0_3, .slice A1_3 l1_3.length c1_3] rfl tq ?_; (with_reducible refine (laws_eqIntS.calls k _ _ l0_3 _ _ l1_3 false _ ?side1 ?side2 ?side3 ?side4 A11.out).mono ?_); (case side1 => exact tC (Kd.C_below HR0_3.out HB.out)); (case side2 => exact HC0_3.out); (case side3 => exact tC (Kd.C_below HR1_3.out HB.out)); (case side4 => exact HC1_3.out); rintro e w' ⟨rfl, ⟨nd, rfl⟩⟩; refine ⟨_, rfl, ?_⟩))
     go_ret
     exact ⟨by first | rfl | (simp [errW_none, errW_some] <;> rfl) | (simp [*, errW_none, errW_some] <;> rfl), zb⟩
  ·rw [if_neg c4] at H
   have c4b0 : (a0_1 == a1_1) = false := beq_eq_false_iff_ne.mpr c4
   have c4b1 : (a0_1 != a1_1) = true := bne_iff_ne.mpr c4
   obtain rfl := Option.some.inj H
   go_enter Try.func68, Try.ntmps68
   go_wp2_with (first | ((with_reducible refine gate_dst (N := 2) rfl ?_); refine box_event ?hg (N := 2) ?hd (cs := #[.int .i64 a0_0, .int .i64 a0_1, .bool a0_2, .slice A0_3 l0_3.length c0_3, .bool a0_4, .slice A0_5 l0_5.length c0_5]) (t := 63) ?hr ?_; (case hd => rfl); (case hg => rfl); (case hr => first | (go_simp; done) | (go_simp; rfl)); intro gb737 hg w36 hbox hb; have BK737 := Aside0.mk (hbox); have GW737 := tge HB hg; have GE737 := tge HB hg; replace HB := tBs HB hb; clear hb hbox hg) | ((with_reducible refine gate_dst (N := 3) rfl ?_); refine box_event ?hg (N := 3) ?hd (cs := #[.int .i64 a1_0, .int .i64 a1_1, .bool a1_2, .slice A1_3 l1_3.length c1_3, .bool a1_4, .slice A1_5 l1_5.length c1_5]) (t := 63) ?hr ?_; (case hd => rfl); (case hg => rfl); (case hr => first | (go_simp; done) | (go_simp; rfl)); intro gb738 hg w37 hbox hb; have BK738 := Aside0.mk (hbox); have GW738 := tge HB hg; have GE738 := tge HB hg; replace HB := tBs HB hb; have NB737_738 := tlt BK737 hg; have NB738_737 := tgt BK737 hg; replace BK737 := tBb BK737 hb; clear hb hbox hg; have hnb38 := NB737_738.out; have hnc38 := NB738_737.out; obtain ⟨hcz39_0, hcz39_1, hcz39_2, hcz39_3, hcz39_4, hcz39_5, hfz39_0, hfz39_1, hfz39_2, hfz39_3, hfz39_4, hfz39_5⟩ := cells6 BK737.out; obtain ⟨hcz40_0, hcz40_1, hcz40_2, hcz40_3, hcz40_4, hcz40_5, hfz40_0, hfz40_1, hfz40_2, hfz40_3, hfz40_4, hfz40_5⟩ := cells6 BK738.out))
   go_ret
   exact ⟨by first | rfl | (simp [errW_none, errW_some] <;> rfl) | (simp [*, errW_none, errW_some] <;> rfl), zb⟩
 ·rw [if_neg c3] at H
  have c3b0 : (a0_0 == a1_0) = false := beq_eq_false_iff_ne.mpr c3
  have c3b1 : (a0_0 != a1_0) = true := bne_iff_ne.mpr c3
  obtain rfl := Option.some.inj H
  go_enter Try.func68, Try.ntmps68
  go_wp2_with (first | ((with_reducible refine gate_dst (N := 2) rfl ?_); refine box_event ?hg (N := 2) ?hd (cs := #[.int .i64 a0_0, .int .i64 a0_1, .bool a0_2, .slice A0_3 l0_3.length c0_3, .bool a0_4, .slice A0_5 l0_5.length c0_5]) (t := 63) ?hr ?_; (case hd => rfl); (case hg => rfl); (case hr => first | (go_simp; done) | (go_simp; rfl)); intro gb737 hg w41 hbox hb; have BK737 := Aside0.mk (hbox); have GW737 := tge HB hg; have GE737 := tge HB hg; replace HB := tBs HB hb; clear hb hbox hg) | ((with_reducible refine gate_dst (N := 3) rfl ?_); refine box_event ?hg (N := 3) ?hd (cs := #[.int .i64 a1_0, .int .i64 a1_1, .bool a1_2, .slice A1_3 l1_3.length c1_3, .bool a1_4, .slice A1_5 l1_5.length c1_5]) (t := 63) ?hr ?_; (case hd => rfl); (case hg => rfl); (case hr => first | (go_simp; done) | (go_simp; rfl)); intro gb738 hg w42 hbox hb; have BK738 := Aside0.mk (hbox); have GW738 := tge HB hg; have GE738 := tge HB hg; replace HB := tBs HB hb; have NB737_738 := tlt BK737 hg; have NB738_737 := tgt BK737 hg; replace BK737 := tBb BK737 hb; clear hb hbox hg; have hnb43 := NB737_738.out; have hnc43 := NB738_737.out; obtain ⟨hcz44_0, hcz44_1, hcz44_2, hcz44_3, hcz44_4, hcz44_5, hfz44_0, hfz44_1, hfz44_2, hfz44_3, hfz44_4, hfz44_5⟩ := cells6 BK737.out; obtain ⟨hcz45_0, hcz45_1, hcz45_2, hcz45_3, hcz45_4, hcz45_5, hfz45_0, hfz45_1, hfz45_2, hfz45_3, hfz45_4, hfz45_5⟩ := cells6 BK738.out))
  go_ret
  exact ⟨by first | rfl | (simp [errW_none, errW_some] <;> rfl) | (simp [*, errW_none, errW_some] <;> rfl), zb⟩

def laws_eqRecordS.l0 : Nat → List (S63) → List (S63) → Int → Option (Bool)
 | 0, _, _, _ => none
 | k + 1, x0, x1, x5 => if x5 < (x0.length : Int) then (if 0 ≤ x5 then (if x5 < (x1.length : Int) then ((laws_eqRecord.f k ((rd_T63 x0 x5).f0) ((rd_T63 x0 x5).f1) ((rd_T63 x0 x5).f2) ((rd_T63 x0 x5).f3) ((rd_T63 x0 x5).f4) ((rd_T63 x0 x5).f5) ((rd_T63 x1 x5).f0) ((rd_T63 x1 x5).f1) ((rd_T63 x1 x5).f2) ((rd_T63 x1 x5).f3) ((rd_T63 x1 x5).f4) ((rd_T63 x1 x5).f5)).bind fun t743 => (if t743 = true then (laws_eqRecordS.l0 k x0 x1 (wrap64 (x5 + 1))) else (some false))) else (none)) else (none)) else (some true)
def laws_eqRecordS.f (k : Nat) (l0 : List (S63)) (l1 : List (S63)) : Option (Bool) := if (l0.length : Int) = (l1.length : Int) then (laws_eqRecordS.l0 k l0 l1 0) else (some false)
def laws_eqRecordS.T6 : Bool × List (List Nat × List Nat) := (true, [([], []), ([], []), ([0, 1], [0, 1]), ([2], [2]), ([], []), ([], []), ([4, 5], [4, 5]), ([6], [6]), ([3, 7], [3, 7]), ([8], [8])])
def laws_eqRecordS.B6 : List Nat := [0, 0, 3, 7, 0, 0, 48, 112, 255, 511]
theorem laws_eqRecordS.tab6 : rtab .any (opsOf Try.f49 6) = laws_eqRecordS.T6 := by kernel_rfl
theorem laws_eqRecordS.bits6 : waitsOk laws_eqRecordS.T6.2 laws_eqRecordS.B6 = true := by kernel_rfl
set_option maxHeartbeats 8000000 in
set_option maxRecDepth 100000 in
theorem laws_eqRecordS.calls (k : Nat) (A0 : Option Addr) (c0 : Nat) (l0 : List (S63)) (A1 : Option Addr) (c1 : Nat) (l1 : List (S63)) (r : Bool) (w : World) (hr0 : Kd.C k63 w A0 l0.length l0) (hc0 : l0.length ≤ c0) (hr1 : Kd.C k63 w A1 l1.length l1) (hc1 : l1.length ≤ c1) (h : laws_eqRecordS.f k l0 l1 = some r) :
  Calls Try.prog 49 #[.slice A0 l0.length c0, .slice A1 l1.length c1] w fun e w' => e = .returned (.bool r) ∧ Below w.heap.size w w' := by
 have hu63 := Try.underlying63
 have HR0 := Aside0.mk hr0
 have HC0 := Aside0.mk hc0
 clear hr0 hc0
 have HR1 := Aside0.mk hr1
 have HC1 := Aside0.mk hc1
 clear hr1 hc1
 have HB := Aside0.mk (Below.refl w.heap.size w)
 have H : (if (l0.length : Int) = (l1.length : Int) then (laws_eqRecordS.l0 k l0 l1 0) else (some false)) = some r := h
 clear h
 by_cases c3 : (l0.length : Int) = (l1.length : Int)
 ·rw [if_pos c3] at H
  have c3b0 : ((l0.length : Int) == (l1.length : Int)) = true := beq_iff_eq.mpr c3
  have c3b1 : ((l0.length : Int) != (l1.length : Int)) = false := bne_eq_false_iff_eq.mpr c3
  have c3b2 : (l0.length == l1.length) = true := by first | simpa using c3 | (simp at c3 ⊢; omega)
  clear c3
  have H' := Aside0.mk H
  clear H
  go_enter Try.func49, Try.ntmps49
  go_wp2
  go_loopg [5] k (fun kq v5 w' => ∃ (x5_1 : Int), v5 = .int .i64 x5_1 ∧ Aside0 (laws_eqRecordS.l0 kq l0 l1 x5_1 = some r) ∧ Aside0 (kq ≤ k) ∧ Aside0 (Below w.heap.size w w'))
  case atStart => exact ⟨(0), tr, H', ⟨Nat.le_refl _⟩, ⟨zb⟩⟩
  case round =>
   clear H'
   try clear c1; try clear c3; try clear c3b0; try clear c3b1; try clear c3b2
   obtain ⟨x5_1, rfl, HA, HK1, HB⟩ := hrel
   cases gk with
   | zero => exact absurd HA.out (by simp [laws_eqRecordS.l0])
   | succ k1 =>
    have H := HA.out
    clear HA
    simp only [laws_eqRecordS.l0] at H
    by_cases c4 : x5_1 < (l0.length : Int)
    ·rw [if_pos c4] at H
     have c4b0 : decide (x5_1 < (l0.length : Int)) = true := decide_eq_true c4
     clear c4
     by_cases c5 : 0 ≤ x5_1
     ·rw [if_pos c5] at H
      have c5b0 : decide (0 ≤ x5_1) = true := decide_eq_true c5
      clear c5
      by_cases c6 : x5_1 < (l1.length : Int)
      ·rw [if_pos c6] at H
       have c6b0 : decide (x5_1 < (l1.length : Int)) = true := decide_eq_true c6
       clear c6
       replace H := tbe H
       obtain ⟨t743, A7, H⟩ := H
       by_cases c8 : t743 = true
       ·subst c8
        rw [if_pos rfl] at H
        have H' := Aside0.mk H
        clear H
        try go_wp2
        replace HB := Aside0.mk (below_drew1 HB.out)
        have p741 : 0 ≤ (x5_1 : Int) := td
        have q741 : x5_1 < (l0.length : Int) := td
        obtain ⟨ad741, A741_3, c741_3, A741_5, c741_5, e741, hx741_0, hx741_1, hx741_2, hx741_3, hx741_4, hx741_5, hl741_3, hi741_3, hl741_5, hi741_5⟩ := at_T63 HR0.out x5_1 p741 q741
        have hw741_5 := hx741_5
        have hw741_4 := hx741_4
        have hw741_3 := hx741_3
        have hw741_2 := hx741_2
        have hw741_1 := hx741_1
        have hw741_0 := hx741_0
        cases e741
        replace hx741_0 := tcl HB hx741_0
        replace hx741_1 := tcl HB hx741_1
        replace hx741_2 := tcl HB hx741_2
        replace hx741_3 := tcl HB hx741_3
        replace hx741_4 := tcl HB hx741_4
        replace hx741_5 := tcl HB hx741_5
        have HR741_3 := Aside0.mk hi741_3
        have HC741_3 := Aside0.mk hl741_3
        clear hi741_3 hl741_3
        have HR741_5 := Aside0.mk hi741_5
        have HC741_5 := Aside0.mk hl741_5
        clear hi741_5 hl741_5
        replace p741 := eq_true p741
        replace q741 := eq_true q741
        have p742 : 0 ≤ (x5_1 : Int) := td
        have q742 : x5_1 < (l1.length : Int) := td
        obtain ⟨ad742, A742_3, c742_3, A742_5, c742_5, e742, hx742_0, hx742_1, hx742_2, hx742_3, hx742_4, hx742_5, hl742_3, hi742_3, hl742_5, hi742_5⟩ := at_T63 HR1.out x5_1 p742 q742
        have hw742_5 := hx742_5
        have hw742_4 := hx742_4
        have hw742_3 := hx742_3
        have hw742_2 := hx742_2
        have hw742_1 := hx742_1
        have hw742_0 := hx742_0
        cases e742
        replace hx742_0 := tcl HB hx742_0
        replace hx742_1 := tcl HB hx742_1
        replace hx742_2 := tcl HB hx742_2
        replace hx742_3 := tcl HB hx742_3
        replace hx742_4 := tcl HB hx742_4
        replace hx742_5 := tcl HB hx742_5
        have HR742_3 := Aside0.mk hi742_3
        have HC742_3 := Aside0.mk hl742_3
        clear hi742_3 hl742_3
        have HR742_5 := Aside0.mk hi742_5
        have HC742_5 := Aside0.mk hl742_5
        clear hi742_5 hl742_5
        replace p742 := eq_true p742
        replace q742 := eq_true q742
        refine start_ (n := 10) (S := fun w' => w'.cell? (ad741.add ((x5_1).toNat * 6)) = some (.int .i64 ((rd_T63 l0 x5_1).f0)) ∧ w'.cell? ⟨(ad741.add ((x5_1).toNat * 6)).block, (ad741.add ((x5_1).toNat * 6)).off + 1, none⟩ = some (.int .i64 ((rd_T63 l0 x5_1).f1)) ∧ w'.cell? ⟨(ad741.add ((x5_1).toNat * 6)).block, (ad741.add ((x5_1).toNat * 6)).off + 2, none⟩ = some (.bool ((rd_T63 l0 x5_1).f2)) ∧ w'.cell? ⟨(ad741.add ((x5_1).toNat * 6)).block, (ad741.add ((x5_1).toNat * 6)).off + 3, none⟩ = some (.slice A741_3 ((rd_T63 l0 x5_1).f3).length c741_3) ∧ w'.cell? ⟨(ad741.add ((x5_1).toNat * 6)).block, (ad741.add ((x5_1).toNat * 6)).off + 4, none⟩ = some (.bool ((rd_T63 l0 x5_1).f4)) ∧ w'.cell? ⟨(ad741.add ((x5_1).toNat * 6)).block, (ad741.add ((x5_1).toNat * 6)).off + 5, none⟩ = some (.slice A741_5 ((rd_T63 l0 x5_1).f5).length c741_5) ∧ w'.cell? (ad742.add ((x5_1).toNat * 6)) = some (.int .i64 ((rd_T63 l1 x5_1).f0)) ∧ w'.cell? ⟨(ad742.add ((x5_1).toNat * 6)).block, (ad742.add ((x5_1).toNat * 6)).off + 1, none⟩ = some (.int .i64 ((rd_T63 l1 x5_1).f1)) ∧ w'.cell? ⟨(ad742.add ((x5_1).toNat * 6)).block, (ad742.add ((x5_1).toNat * 6)).off + 2, none⟩ = some (.bool ((rd_T63 l1 x5_1).f2)) ∧ w'.cell? ⟨(ad742.add ((x5_1).toNat * 6)).block, (ad742.add ((x5_1).toNat * 6)).off + 3, none⟩ = some (.slice A742_3 ((rd_T63 l1 x5_1).f3).length c742_3) ∧ w'.cell? ⟨(ad742.add ((x5_1).toNat * 6)).block, (ad742.add ((x5_1).toNat * 6)).off + 4, none⟩ = some (.bool ((rd_T63 l1 x5_1).f4)) ∧ w'.cell? ⟨(ad742.add ((x5_1).toNat * 6)).block, (ad742.add ((x5_1).toNat * 6)).off + 5, none⟩ = some (.slice A742_5 ((rd_T63 l1 x5_1).f5).length c742_5)) (ds := []) #[false, false, false, false, false, false, false, false, false, false] (by kernel_rfl) rfl rfl ⟨(tcl HB hw741_0), (tcl HB hw741_1), (tcl HB hw741_2), (tcl HB hw741_3), (tcl HB hw741_4), (tcl HB hw741_5), (tcl HB hw742_0), (tcl HB hw742_1), (tcl HB hw742_2), (tcl HB hw742_3), (tcl HB hw742_4), (tcl HB hw742_5)⟩ (fun hHeld => ?_); refine with_tabW laws_eqRecordS.tab6 laws_eqRecordS.bits6 (fun HT_ HW_ => ?_)
        generalize wr.drew = w9 at HB HR741_3 HR741_5 HR742_3 HR742_5 hx741_0 hx741_1 hx741_2 hx741_3 hx741_4 hx741_5 hx742_0 hx742_1 hx742_2 hx742_3 hx742_4 hx742_5 hHeld ⊢
        refine tpu 0 (some 17) #[true, false, false, false, false, false, false, false, false, false] ?_
        refine tpu 1 (some 18) #[true, true, false, false, false, false, false, false, false, false] ?_
        refine tpu 2 (some 19) #[true, true, true, false, false, false, false, false, false, false] ?_
        refine tpu 4 (some 21) #[true, true, true, false, true, false, false, false, false, false] ?_
        refine tpu 5 (some 22) #[true, true, true, false, true, true, false, false, false, false] ?_
        refine tpu 6 (some 23) #[true, true, true, false, true, true, true, false, false, false] ?_
        refine tta 3 (some 20) #[true, true, true, true, true, true, true, false, false, false] hHeld ?_ (hy := by rintro w' ⟨s0, s1, s2, s3, s4, s5, s6, s7, s8, s9, s10, s11⟩; go_simp; with_reducible rfl)
        refine tta 7 (some 24) #[true, true, true, true, true, true, true, true, false, false] hHeld ?_ (hy := by rintro w' ⟨s0, s1, s2, s3, s4, s5, s6, s7, s8, s9, s10, s11⟩; go_simp; with_reducible rfl)
        refine one_ (i := 8) (N := some 25) #[true, true, true, true, true, true, true, true, true, false] rfl rfl (one_of HT_.out (by kernel_rfl)) (by decide) (fun K hK => ?_)
        refine goes_ Try.func68 (by kernel_rfl) rfl #[.agg #[.int .i64 ((rd_T63 l0 x5_1).f0), .int .i64 ((rd_T63 l0 x5_1).f1), .bool ((rd_T63 l0 x5_1).f2), .slice A741_3 ((rd_T63 l0 x5_1).f3).length c741_3, .bool ((rd_T63 l0 x5_1).f4), .slice A741_5 ((rd_T63 l0 x5_1).f5).length c741_5], .agg #[.int .i64 ((rd_T63 l1 x5_1).f0), .int .i64 ((rd_T63 l1 x5_1).f1), .bool ((rd_T63 l1 x5_1).f2), .slice A742_3 ((rd_T63 l1 x5_1).f3).length c742_3, .bool ((rd_T63 l1 x5_1).f4), .slice A742_5 ((rd_T63 l1 x5_1).f5).length c742_5]] (by rfl) rfl rfl tq ?_
        with_reducible refine (laws_eqRecord.calls k1 ((rd_T63 l0 x5_1).f0) ((rd_T63 l0 x5_1).f1) ((rd_T63 l0 x5_1).f2) _ _ ((rd_T63 l0 x5_1).f3) ((rd_T63 l0 x5_1).f4) _ _ ((rd_T63 l0 x5_1).f5) ((rd_T63 l1 x5_1).f0) ((rd_T63 l1 x5_1).f1) ((rd_T63 l1 x5_1).f2) _ _ ((rd_T63 l1 x5_1).f3) ((rd_T63 l1 x5_1).f4) _ _ ((rd_T63 l1 x5_1).f5) true _ ?side1 ?side2 ?side3 ?side4 ?side5 ?side6 ?side7 ?side8 A7.out).mono ?_
        (case side1 => exact tC (Kd.C_below HR741_3.out HB.out))
        (case side2 => exact HC741_3.out)
        (case side3 => exact tC (Kd.C_below HR741_5.out HB.out))
        (case side4 => exact HC741_5.out)
        (case side5 => exact tC (Kd.C_below HR742_3.out HB.out))
        (case side6 => exact HC742_3.out)
        (case side7 => exact tC (Kd.C_below HR742_5.out HB.out))
        (case side8 => exact HC742_5.out)
        rintro e w10 ⟨rfl, hb⟩
        refine ⟨_, rfl, ?_⟩
        replace HB := tBs HB hb
        (try clear hb)
        (try clear hb2)
        (try clear hk)
        (try clear hi)
        refine hK.out _ _ ⟨(tcl HB hw741_0), (tcl HB hw741_1), (tcl HB hw741_2), (tcl HB hw741_3), (tcl HB hw741_4), (tcl HB hw741_5), (tcl HB hw742_0), (tcl HB hw742_1), (tcl HB hw742_2), (tcl HB hw742_3), (tcl HB hw742_4), (tcl HB hw742_5)⟩ (fun hHeld => ?_)
        clear hK K
        refine tnm (some 25) ?_
        refine tpu 9 (some 26) #[true, true, true, true, true, true, true, true, true, true] ?_
        refine done_ (done_of HT_.out (by kernel_rfl)) ?_
        try go_wp2
        go_roundg k1
        case measure => have := HK1.out; omega
        case rel => exact ⟨(wrap64 (x5_1 + 1)), tr, H', ⟨by have := HK1.out; omega⟩, ⟨zb⟩⟩
       ·replace c8 := Bool.eq_false_iff.mpr c8
        subst c8
        rw [if_neg (show ¬ (false = true) by decide)] at H
        obtain rfl := Option.some.inj H
        try go_wp2
        replace HB := Aside0.mk (below_drew1 HB.out)
        have p741 : 0 ≤ (x5_1 : Int) := td
        have q741 : x5_1 < (l0.length : Int) := td
        obtain ⟨ad741, A741_3, c741_3, A741_5, c741_5, e741, hx741_0, hx741_1, hx741_2, hx741_3, hx741_4, hx741_5, hl741_3, hi741_3, hl741_5, hi741_5⟩ := at_T63 HR0.out x5_1 p741 q741
        have hw741_5 := hx741_5
        have hw741_4 := hx741_4
        have hw741_3 := hx741_3
        have hw741_2 := hx741_2
        have hw741_1 := hx741_1
        have hw741_0 := hx741_0
        cases e741
        replace hx741_0 := tcl HB hx741_0
        replace hx741_1 := tcl HB hx741_1
        replace hx741_2 := tcl HB hx741_2
        replace hx741_3 := tcl HB hx741_3
        replace hx741_4 := tcl HB hx741_4
        replace hx741_5 := tcl HB hx741_5
        have HR741_3 := Aside0.mk hi741_3
        have HC741_3 := Aside0.mk hl741_3
        clear hi741_3 hl741_3
        have HR741_5 := Aside0.mk hi741_5
        have HC741_5 := Aside0.mk hl741_5
        clear hi741_5 hl741_5
        replace p741 := eq_true p741
        replace q741 := eq_true q741
        have p742 : 0 ≤ (x5_1 : Int) := td
        have q742 : x5_1 < (l1.length : Int) := td
        obtain ⟨ad742, A742_3, c742_3, A742_5, c742_5, e742, hx742_0, hx742_1, hx742_2, hx742_3, hx742_4, hx742_5, hl742_3, hi742_3, hl742_5, hi742_5⟩ := at_T63 HR1.out x5_1 p742 q742
        have hw742_5 := hx742_5
        have hw742_4 := hx742_4
        have hw742_3 := hx742_3
        have hw742_2 := hx742_2
        have hw742_1 := hx742_1
        have hw742_0 := hx742_0
        cases e742
        replace hx742_0 := tcl HB hx742_0
        replace hx742_1 := tcl HB hx742_1
        replace hx742_2 := tcl HB hx742_2
        replace hx742_3 := tcl HB hx742_3
        replace hx742_4 := tcl HB hx742_4
        replace hx742_5 := tcl HB hx742_5
        have HR742_3 := Aside0.mk hi742_3
        have HC742_3 := Aside0.mk hl742_3
        clear hi742_3 hl742_3
        have HR742_5 := Aside0.mk hi742_5
        have HC742_5 := Aside0.mk hl742_5
        clear hi742_5 hl742_5
        replace p742 := eq_true p742
        replace q742 := eq_true q742
        refine start_ (n := 10) (S := fun w' => w'.cell? (ad741.add ((x5_1).toNat * 6)) = some (.int .i64 ((rd_T63 l0 x5_1).f0)) ∧ w'.cell? ⟨(ad741.add ((x5_1).toNat * 6)).block, (ad741.add ((x5_1).toNat * 6)).off + 1, none⟩ = some (.int .i64 ((rd_T63 l0 x5_1).f1)) ∧ w'.cell? ⟨(ad741.add ((x5_1).toNat * 6)).block, (ad741.add ((x5_1).toNat * 6)).off + 2, none⟩ = some (.bool ((rd_T63 l0 x5_1).f2)) ∧ w'.cell? ⟨(ad741.add ((x5_1).toNat * 6)).block, (ad741.add ((x5_1).toNat * 6)).off + 3, none⟩ = some (.slice A741_3 ((rd_T63 l0 x5_1).f3).length c741_3) ∧ w'.cell? ⟨(ad741.add ((x5_1).toNat * 6)).block, (ad741.add ((x5_1).toNat * 6)).off + 4, none⟩ = some (.bool ((rd_T63 l0 x5_1).f4)) ∧ w'.cell? ⟨(ad741.add ((x5_1).toNat * 6)).block, (ad741.add ((x5_1).toNat * 6)).off + 5, none⟩ = some (.slice A741_5 ((rd_T63 l0 x5_1).f5).length c741_5) ∧ w'.cell? (ad742.add ((x5_1).toNat * 6)) = some (.int .i64 ((rd_T63 l1 x5_1).f0)) ∧ w'.cell? ⟨(ad742.add ((x5_1).toNat * 6)).block, (ad742.add ((x5_1).toNat * 6)).off + 1, none⟩ = some (.int .i64 ((rd_T63 l1 x5_1).f1)) ∧ w'.cell? ⟨(ad742.add ((x5_1).toNat * 6)).block, (ad742.add ((x5_1).toNat * 6)).off + 2, none⟩ = some (.bool ((rd_T63 l1 x5_1).f2)) ∧ w'.cell? ⟨(ad742.add ((x5_1).toNat * 6)).block, (ad742.add ((x5_1).toNat * 6)).off + 3, none⟩ = some (.slice A742_3 ((rd_T63 l1 x5_1).f3).length c742_3) ∧ w'.cell? ⟨(ad742.add ((x5_1).toNat * 6)).block, (ad742.add ((x5_1).toNat * 6)).off + 4, none⟩ = some (.bool ((rd_T63 l1 x5_1).f4)) ∧ w'.cell? ⟨(ad742.add ((x5_1).toNat * 6)).block, (ad742.add ((x5_1).toNat * 6)).off + 5, none⟩ = some (.slice A742_5 ((rd_T63 l1 x5_1).f5).length c742_5)) (ds := []) #[false, false, false, false, false, false, false, false, false, false] (by kernel_rfl) rfl rfl ⟨(tcl HB hw741_0), (tcl HB hw741_1), (tcl HB hw741_2), (tcl HB hw741_3), (tcl HB hw741_4), (tcl HB hw741_5), (tcl HB hw742_0), (tcl HB hw742_1), (tcl HB hw742_2), (tcl HB hw742_3), (tcl HB hw742_4), (tcl HB hw742_5)⟩ (fun hHeld => ?_); refine with_tabW laws_eqRecordS.tab6 laws_eqRecordS.bits6 (fun HT_ HW_ => ?_)
        generalize wr.drew = w11 at HB HR741_3 HR741_5 HR742_3 HR742_5 hx741_0 hx741_1 hx741_2 hx741_3 hx741_4 hx741_5 hx742_0 hx742_1 hx742_2 hx742_3 hx742_4 hx742_5 hHeld ⊢
        refine tpu 0 (some 17) #[true, false, false, false, false, false, false, false, false, false] ?_
        refine tpu 1 (some 18) #[true, true, false, false, false, false, false, false, false, false] ?_
        refine tpu 2 (some 19) #[true, true, true, false, false, false, false, false, false, false] ?_
        refine tpu 4 (some 21) #[true, true, true, false, true, false, false, false, false, false] ?_
        refine tpu 5 (some 22) #[true, true, true, false, true, true, false, false, false, false] ?_
        refine tpu 6 (some 23) #[true, true, true, false, true, true, true, false, false, false] ?_
        refine tta 3 (some 20) #[true, true, true, true, true, true, true, false, false, false] hHeld ?_ (hy := by rintro w' ⟨s0, s1, s2, s3, s4, s5, s6, s7, s8, s9, s10, s11⟩; go_simp; with_reducible rfl)
        refine tta 7 (some 24) #[true, true, true, true, true, true, true, true, false, false] hHeld ?_ (hy := by rintro w' ⟨s0, s1, s2, s3, s4, s5, s6, s7, s8, s9, s10, s11⟩; go_simp; with_reducible rfl)
        refine one_ (i := 8) (N := some 25) #[true, true, true, true, true, true, true, true, true, false] rfl rfl (one_of HT_.out (by kernel_rfl)) (by decide) (fun K hK => ?_)
        refine goes_ Try.func68 (by kernel_rfl) rfl #[.agg #[.int .i64 ((rd_T63 l0 x5_1).f0), .int .i64 ((rd_T63 l0 x5_1).f1), .bool ((rd_T63 l0 x5_1).f2), .slice A741_3 ((rd_T63 l0 x5_1).f3).length c741_3, .bool ((rd_T63 l0 x5_1).f4), .slice A741_5 ((rd_T63 l0 x5_1).f5).length c741_5], .agg #[.int .i64 ((rd_T63 l1 x5_1).f0), .int .i64 ((rd_T63 l1 x5_1).f1), .bool ((rd_T63 l1 x5_1).f2), .slice A742_3 ((rd_T63 l1 x5_1).f3).length c742_3, .bool ((rd_T63 l1 x5_1).f4), .slice A742_5 ((rd_T63 l1 x5_1).f5).length c742_5]] (by rfl) rfl rfl tq ?_
        with_reducible refine (laws_eqRecord.calls k1 ((rd_T63 l0 x5_1).f0) ((rd_T63 l0 x5_1).f1) ((rd_T63 l0 x5_1).f2) _ _ ((rd_T63 l0 x5_1).f3) ((rd_T63 l0 x5_1).f4) _ _ ((rd_T63 l0 x5_1).f5) ((rd_T63 l1 x5_1).f0) ((rd_T63 l1 x5_1).f1) ((rd_T63 l1 x5_1).f2) _ _ ((rd_T63 l1 x5_1).f3) ((rd_T63 l1 x5_1).f4) _ _ ((rd_T63 l1 x5_1).f5) false _ ?side1 ?side2 ?side3 ?side4 ?side5 ?side6 ?side7 ?side8 A7.out).mono ?_
        (case side1 => exact tC (Kd.C_below HR741_3.out HB.out))
        (case side2 => exact HC741_3.out)
        (case side3 => exact tC (Kd.C_below HR741_5.out HB.out))
        (case side4 => exact HC741_5.out)
        (case side5 => exact tC (Kd.C_below HR742_3.out HB.out))
        (case side6 => exact HC742_3.out)
        (case side7 => exact tC (Kd.C_below HR742_5.out HB.out))
        (case side8 => exact HC742_5.out)
        rintro e w12 ⟨rfl, hb⟩
        refine ⟨_, rfl, ?_⟩
        replace HB := tBs HB hb
        (try clear hb)
        (try clear hb2)
        (try clear hk)
        (try clear hi)
        refine hK.out _ _ ⟨(tcl HB hw741_0), (tcl HB hw741_1), (tcl HB hw741_2), (tcl HB hw741_3), (tcl HB hw741_4), (tcl HB hw741_5), (tcl HB hw742_0), (tcl HB hw742_1), (tcl HB hw742_2), (tcl HB hw742_3), (tcl HB hw742_4), (tcl HB hw742_5)⟩ (fun hHeld => ?_)
        clear hK K
        refine tnm (some 25) ?_
        refine tpu 9 (some 26) #[true, true, true, true, true, true, true, true, true, true] ?_
        refine done_ (done_of HT_.out (by kernel_rfl)) ?_
        try go_wp2
        go_ret
        exact ⟨by first | rfl | (simp [errW_none, errW_some] <;> rfl) | (simp [*, errW_none, errW_some] <;> rfl), zb⟩
      ·rw [if_neg c6] at H
       exact absurd H (by simp)
     ·rw [if_neg c5] at H
      exact absurd H (by simp)
    ·rw [if_neg c4] at H
     have c4b0 : decide (x5_1 < (l0.length : Int)) = false := decide_eq_false c4
     clear c4
     obtain rfl := Option.some.inj H
     go_wp2
     go_ret
     exact ⟨by first | rfl | (simp [errW_none, errW_some] <;> rfl) | (simp [*, errW_none, errW_some] <;> rfl), zb⟩
 ·rw [if_neg c3] at H
  have c3b0 : ((l0.length : Int) == (l1.length : Int)) = false := beq_eq_false_iff_ne.mpr c3
  have c3b1 : ((l0.length : Int) != (l1.length : Int)) = true := bne_iff_ne.mpr c3
  have c3b2 : (l0.length == l1.length) = false := by first | simpa using c3 | (simp at c3 ⊢; omega)
  obtain rfl := Option.some.inj H
  go_enter Try.func49, Try.ntmps49
  go_wp2
  go_ret
  exact ⟨by first | rfl | (simp [errW_none, errW_some] <;> rfl) | (simp [*, errW_none, errW_some] <;> rfl), zb⟩

end Go.Proofs.Ythoioccmnphfgaa.G

namespace Go.Proofs.Ythoioccmnphfgaa.G
open Go.RowKit Go.Proofs.YthoioccmnphfgaaW.PrintWords Go.Proofs.YthoioccmnphfgaaW.PrintLast Go.Proofs.YthoioccmnphfgaaW.PrintMore
attribute [local go_sem] max2_int min2_int max_two min_two max_three min_three max_four min_four   -- for this text's walks alone
set_option linter.unusedVariables false
set_option linter.unusedSimpArgs false

def laws_eqBatch.f (k : Nat) (a0_0 : Bool) (a0_1 : Bool) (a0_2 : Int) (a0_3 : Int) (a0_4 : Int) (l0_5 : List (S63)) (a1_0 : Bool) (a1_1 : Bool) (a1_2 : Int) (a1_3 : Int) (a1_4 : Int) (l1_5 : List (S63)) : Option (Bool) := if (a0_0 != a1_0) = true then (some false) else (if (a0_1 != a1_1) = true then (some false) else (if a0_2 = a1_2 then (if a0_3 = a1_3 then (if a0_4 = a1_4 then ((laws_eqRecordS.f k l0_5 l1_5).bind fun t746 => (if t746 = true then (some true) else (some false))) else (some false)) else (some false)) else (some false)))
set_option maxHeartbeats 8000000 in
set_option maxRecDepth 100000 in
theorem laws_eqBatch.calls (k : Nat) (a0_0 : Bool) (a0_1 : Bool) (a0_2 : Int) (a0_3 : Int) (a0_4 : Int) (A0_5 : Option Addr) (c0_5 : Nat) (l0_5 : List (S63)) (a1_0 : Bool) (a1_1 : Bool) (a1_2 : Int) (a1_3 : Int) (a1_4 : Int) (A1_5 : Option Addr) (c1_5 : Nat) (l1_5 : List (S63)) (r : Bool) (w : World) (hr0_5 : Kd.C k63 w A0_5 l0_5.length l0_5) (hc0_5 : l0_5.length ≤ c0_5) (hr1_5 : Kd.C k63 w A1_5 l1_5.length l1_5) (hc1_5 : l1_5.length ≤ c1_5) (h : laws_eqBatch.f k a0_0 a0_1 a0_2 a0_3 a0_4 l0_5 a1_0 a1_1 a1_2 a1_3 a1_4 l1_5 = some r) :
  Calls Try.prog 33 #[.agg #[.bool a0_0, .bool a0_1, .int .i64 a0_2, .int .i64 a0_3, .int .i64 a0_4, .slice A0_5 l0_5.length c0_5], .agg #[.bool a1_0, .bool a1_1, .int .i64 a1_2, .int .i64 a1_3, .int .i64 a1_4, .slice A1_5 l1_5.length c1_5]] w fun e w' => e = .returned (.bool r) ∧ Below w.heap.size w w' := by
 have hu46 := Try.underlying46
 have HR0_5 := Aside0.mk hr0_5
 have HC0_5 := Aside0.mk hc0_5
 clear hr0_5 hc0_5
 have HR1_5 := Aside0.mk hr1_5
 have HC1_5 := Aside0.mk hc1_5
 clear hr1_5 hc1_5
 have HB := Aside0.mk (Below.refl w.heap.size w)
 have H : (if (a0_0 != a1_0) = true then (some false) else (if (a0_1 != a1_1) = true then (some false) else (if a0_2 = a1_2 then (if a0_3 = a1_3 then (if a0_4 = a1_4 then ((laws_eqRecordS.f k l0_5 l1_5).bind fun t746 => (if t746 = true then (some true) else (some false))) else (some false)) else (some false)) else (some false)))) = some r := h
 clear h
 by_cases c3 : (a0_0 != a1_0) = true
 ·rw [if_pos c3] at H
  have c3b0 : (a0_0 != a1_0) = true := c3
  (try (have c3b1 : decide (a0_0 = a1_0) = false := by simpa using c3))
  (try (have c3b2 : (a0_0 == a1_0) = false := by simpa using c3))
  (try (have c3b3 : ¬ (a0_0 = a1_0) := by simpa using c3))
  clear c3
  obtain rfl := Option.some.inj H
  go_enter Try.func33, Try.ntmps33
  go_wp2_with (first | ((with_reducible refine gate_dst (N := 2) rfl ?_); refine box_event ?hg (N := 2) ?hd (cs := #[.bool a0_0, .bool a0_1, .int .i64 a0_2, .int .i64 a0_3, .int .i64 a0_4, .slice A0_5 l0_5.length c0_5]) (t := 46) ?hr ?_; (case hd => rfl); (case hg => rfl); (case hr => first | (go_simp; done) | (go_simp; rfl)); intro gb744 hg w4 hbox hb; have BK744 := Aside0.mk (hbox); have GW744 := tge HB hg; have GE744 := tge HB hg; replace HB := tBs HB hb; clear hb hbox hg) | ((with_reducible refine gate_dst (N := 3) rfl ?_); refine box_event ?hg (N := 3) ?hd (cs := #[.bool a1_0, .bool a1_1, .int .i64 a1_2, .int .i64 a1_3, .int .i64 a1_4, .slice A1_5 l1_5.length c1_5]) (t := 46) ?hr ?_; (case hd => rfl); (case hg => rfl); (case hr => first | (go_simp; done) | (go_simp; rfl)); intro gb745 hg w5 hbox hb; have BK745 := Aside0.mk (hbox); have GW745 := tge HB hg; have GE745 := tge HB hg; replace HB := tBs HB hb; have NB744_745 := tlt BK744 hg; have NB745_744 := tgt BK744 hg; replace BK744 := tBb BK744 hb; clear hb hbox hg; have hnb6 := NB744_745.out; have hnc6 := NB745_744.out; obtain ⟨hcz7_0, hcz7_1, hcz7_2, hcz7_3, hcz7_4, hcz7_5, hfz7_0, hfz7_1, hfz7_2, hfz7_3, hfz7_4, hfz7_5⟩ := cells6 BK744.out; obtain ⟨hcz8_0, hcz8_1, hcz8_2, hcz8_3, hcz8_4, hcz8_5, hfz8_0, hfz8_1, hfz8_2, hfz8_3, hfz8_4, hfz8_5⟩ := cells6 BK745.out))
  go_ret
  exact ⟨by first | rfl | (simp [errW_none, errW_some] <;> rfl) | (simp [*, errW_none, errW_some] <;> rfl), zb⟩
 ·rw [if_neg c3] at H
  have c3b0 : (a0_0 != a1_0) = false := by simpa using c3
  (try (have c3b1 : decide (a0_0 = a1_0) = true := by simpa using c3))
  (try (have c3b2 : (a0_0 == a1_0) = true := by simpa using c3))
  clear c3
  by_cases c9 : (a0_1 != a1_1) = true
  ·rw [if_pos c9] at H
   have c9b0 : (a0_1 != a1_1) = true := c9
   (try (have c9b1 : decide (a0_1 = a1_1) = false := by simpa using c9))
   (try (have c9b2 : (a0_1 == a1_1) = false := by simpa using c9))
   (try (have c9b3 : ¬ (a0_1 = a1_1) := by simpa using c9))
   clear c9
   obtain rfl := Option.some.inj H
   go_enter Try.func33, Try.ntmps33
   go_wp2_with (first | ((with_reducible refine gate_dst (N := 2) rfl ?_); refine box_event ?hg (N := 2) ?hd (cs := #[.bool a0_0, .bool a0_1, .int .i64 a0_2, .int .i64 a0_3, .int .i64 a0_4, .slice A0_5 l0_5.length c0_5]) (t := 46) ?hr ?_; (case hd => rfl); (case hg => rfl); (case hr => first | (go_simp; done) | (go_simp; rfl)); intro gb744 hg w10 hbox hb; have BK744 := Aside0.mk (hbox); have GW744 := tge HB hg; have GE744 := tge HB hg; replace HB := tBs HB hb; clear hb hbox hg) | ((with_reducible refine gate_dst (N := 3) rfl ?_); refine box_event ?hg (N := 3) ?hd (cs := #[.bool a1_0, .bool a1_1, .int .i64 a1_2, .int .i64 a1_3, .int .i64 a1_4, .slice A1_5 l1_5.length c1_5]) (t := 46) ?hr ?_; (case hd => rfl); (case hg => rfl); (case hr => first | (go_simp; done) | (go_simp; rfl)); intro gb745 hg w11 hbox hb; have BK745 := Aside0.mk (hbox); have GW745 := tge HB hg; have GE745 := tge HB hg; replace HB := tBs HB hb; have NB744_745 := tlt BK744 hg; have NB745_744 := tgt BK744 hg; replace BK744 := tBb BK744 hb; clear hb hbox hg; have hnb12 := NB744_745.out; have hnc12 := NB745_744.out; obtain ⟨hcz13_0, hcz13_1, hcz13_2, hcz13_3, hcz13_4, hcz13_5, hfz13_0, hfz13_1, hfz13_2, hfz13_3, hfz13_4, hfz13_5⟩ := cells6 BK744.out; obtain ⟨hcz14_0, hcz14_1, hcz14_2, hcz14_3, hcz14_4, hcz14_5, hfz14_0, hfz14_1, hfz14_2, hfz14_3, hfz14_4, hfz14_5⟩ := cells6 BK745.out))
   go_ret
   exact ⟨by first | rfl | (simp [errW_none, errW_some] <;> rfl) | (simp [*, errW_none, errW_some] <;> rfl), zb⟩
  ·rw [if_neg c9] at H
   have c9b0 : (a0_1 != a1_1) = false := by simpa using c9
   (try (have c9b1 : decide (a0_1 = a1_1) = true := by simpa using c9))
   (try (have c9b2 : (a0_1 == a1_1) = true := by simpa using c9))
   clear c9
   by_cases c15 : a0_2 = a1_2
   ·rw [if_pos c15] at H
    have c15b0 : (a0_2 == a1_2) = true := beq_iff_eq.mpr c15
    have c15b1 : (a0_2 != a1_2) = false := bne_eq_false_iff_eq.mpr c15
    clear c15
    by_cases c16 : a0_3 = a1_3
    ·rw [if_pos c16] at H
     have c16b0 : (a0_3 == a1_3) = true := beq_iff_eq.mpr c16
     have c16b1 : (a0_3 != a1_3) = false := bne_eq_false_iff_eq.mpr c16
     clear c16
     by_cases c17 : a0_4 = a1_4
     ·rw [if_pos c17] at H
      have c17b0 : (a0_4 == a1_4) = true := beq_iff_eq.mpr c17
      have c17b1 : (a0_4 != a1_4) = false := bne_eq_false_iff_eq.mpr c17
      clear c17
      replace H := tbe H
      obtain ⟨t746, A18, H⟩ := H
      by_cases c19 : t746 = true
      ·subst c19
       rw [if_pos rfl] at H
       obtain rfl := Option.some.inj H
       go_enter Try.func33, Try.ntmps33
       go_wp2_with (first | ((with_reducible refine gate_dst (N := 2) rfl ?_); refine box_event ?hg (N := 2) ?hd (cs := #[.bool a0_0, .bool a0_1, .int .i64 a0_2, .int .i64 a0_3, .int .i64 a0_4, .slice A0_5 l0_5.length c0_5]) (t := 46) ?hr ?_; (case hd => rfl); (case hg => rfl); (case hr => first | (go_simp; done) | (go_simp; rfl)); intro gb744 hg w20 hbox hb; have BK744 := Aside0.mk (hbox); have GW744 := tge HB hg; have GE744 := tge HB hg; replace HB := tBs HB hb; clear hb hbox hg) | ((with_reducible refine gate_dst (N := 3) rfl ?_); refine box_event ?hg (N := 3) ?hd (cs := #[.bool a1_0, .bool a1_1, .int .i64 a1_2, .int .i64 a1_3, .int .i64 a1_4, .slice A1_5 l1_5.length c1_5]) (t := 46) ?hr ?_; (case hd => rfl); (case hg => rfl); (case hr => first | (go_simp; done) | (go_simp; rfl)); intro gb745 hg w21 hbox hb; have BK745 := Aside0.mk (hbox); have GW745 := tge HB hg; have GE745 := tge HB hg; replace HB := tBs HB hb; have NB744_745 := tlt BK744 hg; have NB745_744 := tgt BK744 hg; replace BK744 := tBb BK744 hb; clear hb hbox hg; have hnb22 := NB744_745.out; have hnc22 := NB745_744.out; obtain ⟨hcz23_0, hcz23_1, hcz23_2, hcz23_3, hcz23_4, hcz23_5, hfz23_0, hfz23_1, hfz23_2, hfz23_3, hfz23_4, hfz23_5⟩ := cells6 BK744.out; obtain ⟨hcz24_0, hcz24_1, hcz24_2, hcz24_3, hcz24_4, hcz24_5, hfz24_0, hfz24_1, hfz24_2, hfz24_3, hfz24_4, hfz24_5⟩ := cells6 BK745.out) | ((with_reducible refine gate_callee (f := 49) rfl ?_); refine goesL_ (some 34) rfl rfl Try.func49 (by kernel_rfl) rfl #[.slice A0_5 l0_5.length c0_5, .slice A1_5 l1_5.length c1_5] rfl tq ?_; (with_reducible refine (laws_eqRecordS.calls k _ _ l0_5 _ _ l1_5 true _ ?side1 ?side2 ?side3 ?side4 A18.out).mono ?_); (case side1 => exact tC (Kd.C_below HR0_5.out HB.out)); (case side2 => exact HC0_5.out); (case side3 => exact tC (Kd.C_below HR1_5.out HB.out)); (case side4 => exact HC1_5.out); rintro e w25 ⟨rfl, hb⟩; refine ⟨_, rfl, ?_⟩; replace BK744 := tBb BK744 hb; replace BK745 := tBb BK745 hb; replace HB := tBs HB hb; (try clear hb); (try clear hb2); (try clear hk); (try clear hi)))
       go_ret
       exact ⟨by first | rfl | (simp [errW_none, errW_some] <;> rfl) | (simp [*, errW_none, errW_some] <;> rfl), zb⟩
      ·replace c19 := Bool.eq_false_iff.mpr c19
       subst c19
       rw [if_neg (show ¬ (false = true) by decide)] at H
       obtain rfl := Option.some.inj H
       go_enter Try.func33, Try.ntmps33
       go_wp2_with (first | ((with_reducible refine gate_dst (N := 2) rfl ?_); refine box_event ?hg (N := 2) ?hd (cs := #[.bool a0_0, .bool a0_1, .int .i64 a0_2, .int .i64 a0_3, .int .i64 a0_4, .slice A0_5 l0_5.length c0_5]) (t := 46) ?hr ?_; (case hd => rfl); (case hg => rfl); (case hr => first | (go_simp; done) | (go_simp; rfl)); intro gb744 hg w26 hbox hb; have BK744 := Aside0.mk (hbox); have GW744 := tge HB hg; have GE744 := tge HB hg; replace HB := tBs HB hb; clear hb hbox hg) | ((with_reducible refine gate_dst (N := 3) rfl ?_); refine box_event ?hg (N := 3) ?hd (cs := #[.bool a1_0, .bool a1_1, .int .i64 a1_2, .int .i64 a1_3, .int .i64 a1_4, .slice A1_5 l1_5.length c1_5]) (t := 46) ?hr ?_; (case hd => rfl); (case hg => rfl); (case hr => first | (go_simp; done) | (go_simp; rfl)); intro gb745 hg w27 hbox hb; have BK745 := Aside0.mk (hbox); have GW745 := tge HB hg; have GE745 := tge HB hg; replace HB := tBs HB hb; have NB744_745 := tlt BK744 hg; have NB745_744 := tgt BK744 hg; replace BK744 := tBb BK744 hb; clear hb hbox hg; have hnb28 := NB744_745.out; have hnc28 := NB745_744.out; obtain ⟨hcz29_0, hcz29_1, hcz29_2, hcz29_3, hcz29_4, hcz29_5, hfz29_0, hfz29_1, hfz29_2, hfz29_3, hfz29_4, hfz29_5⟩ := cells6 BK744.out; obtain ⟨hcz30_0, hcz30_1, hcz30_2, hcz30_3, hcz30_4, hcz30_5, hfz30_0, hfz30_1, hfz30_2, hfz30_3, hfz30_4, hfz30_5⟩ := cells6 BK745.out) | ((with_reducible refine gate_callee (f := 49) rfl ?_); refine goesL_ (some 34) rfl rfl Try.func49 (by kernel_rfl) rfl #[.slice A0_5 l0_5.length c0_5, .slice A1_5 l1_5.length c1_5] rfl tq ?_; (with_reducible refine (laws_eqRecordS.calls k _ _ l0_5 _ _ l1_5 false _ ?side1 ?side2 ?side3 ?side4 A18.out).mono ?_); (case side1 => exact tC (Kd.C_below HR0_5.out HB.out)); (case side2 => exact HC0_5.out); (case side3 => exact tC (Kd.C_below HR1_5.out HB.out)); (case side4 => exact HC1_5.out); rintro e w31 ⟨rfl, hb⟩; refine ⟨_, rfl, ?_⟩; replace BK744 := tBb BK744 hb; replace BK745 := tBb BK745 hb; replace HB := tBs HB hb; (try clear hb); (try clear hb2); (try clear hk); (try clear hi)))
       go_ret
       exact ⟨by first | rfl | (simp [errW_none, errW_some] <;> rfl) | (simp [*, errW_none, errW_some] <;> rfl), zb⟩
     ·rw [if_neg c17] at H
      have c17b0 : (a0_4 == a1_4) = false := beq_eq_false_iff_ne.mpr c17
      have c17b1 : (a0_4 != a1_4) = true := bne_iff_ne.mpr c17
      obtain rfl := Option.some.inj H
      go_enter Try.func33, Try.ntmps33
      go_wp2_with (first | ((with_reducible refine gate_dst (N := 2) rfl ?_); refine box_event ?hg (N := 2) ?hd (cs := #[.bool a0_0, .bool a0_1, .int .i64 a0_2, .int .i64 a0_3, .int .i64 a0_4, .slice A0_5 l0_5.length c0_5]) (t := 46) ?hr ?_; (case hd => rfl); (case hg => rfl); (case hr => first | (go_simp; done) | (go_simp; rfl)); intro gb744 hg w32 hbox hb; have BK744 := Aside0.mk (hbox); have GW744 := tge HB hg; have GE744 := tge HB hg; replace HB := tBs HB hb; clear hb hbox hg) | ((with_reducible refine gate_dst (N := 3) rfl ?_); refine box_event ?hg (N := 3) ?hd (cs := #[.bool a1_0, .bool a1_1, .int .i64 a1_2, .int .i64 a1_3, .int .i64 a1_4, .slice A1_5 l1_5.length c1_5]) (t := 46) ?hr ?_; (case hd => rfl); (case hg => rfl); (case hr => first | (go_simp; done) | (go_simp; rfl)); intro gb745 hg w33 hbox hb; have BK745 := Aside0.mk (hbox); have GW745 := tge HB hg; have GE745 := tge HB hg; replace HB := tBs HB hb; have NB744_745 := tlt BK744 hg; have NB745_744 := tgt BK744 hg; replace BK744 := tBb BK744 hb; clear hb hbox hg; have hnb34 := NB744_745.out; have hnc34 := NB745_744.out; obtain ⟨hcz35_0, hcz35_1, hcz35_2, hcz35_3, hcz35_4, hcz35_5, hfz35_0, hfz35_1, hfz35_2, hfz35_3, hfz35_4, hfz35_5⟩ := cells6 BK744.out; obtain ⟨hcz36_0, hcz36_1, hcz36_2, hcz36_3, hcz36_4, hcz36_5, hfz36_0, hfz36_1, hfz36_2, hfz36_3, hfz36_4, hfz36_5⟩ := cells6 BK745.out))
      go_ret
      exact ⟨by first | rfl | (simp [errW_none, errW_some] <;> rfl) | (simp [*, errW_none, errW_some] <;> rfl), zb⟩
    ·rw [if_neg c16] at H
     have c16b0 : (a0_3 == a1_3) = false := beq_eq_false_iff_ne.mpr c16
     have c16b1 : (a0_3 != a1_3) = true := bne_iff_ne.mpr c16
     obtain rfl := Option.some.inj H
     go_enter Try.func33, Try.ntmps33
     go_wp2_with (first | ((with_reducible refine gate_dst (N := 2) rfl ?_); refine box_event ?hg (N := 2) ?hd (cs := #[.bool a0_0, .bool a0_1, .int .i64 a0_2, .int .i64 a0_3, .int .i64 a0_4, .slice A0_5 l0_5.length c0_5]) (t := 46) ?hr ?_; (case hd => rfl); (case hg => rfl); (case hr => first | (go_simp; done) | (go_simp; rfl)); intro gb744 hg w37 hbox hb; have BK744 := Aside0.mk (hbox); have GW744 := tge HB hg; have GE744 := tge HB hg; replace HB := tBs HB hb; clear hb hbox hg) | ((with_reducible refine gate_dst (N := 3) rfl ?_); refine box_event ?hg (N := 3) ?hd (cs := #[.bool a1_0, .bool a1_1, .int .i64 a1_2, .int .i64 a1_3, .int .i64 a1_4, .slice A1_5 l1_5.length c1_5]) (t := 46) ?hr ?_; (case hd => rfl); (case hg => rfl); (case hr => first | (go_simp; done) | (go_simp; rfl)); intro gb745 hg w38 hbox hb; have BK745 := Aside0.mk (hbox); have GW745 := tge HB hg; have GE745 := tge HB hg; replace HB := tBs HB hb; have NB744_745 := tlt BK744 hg; have NB745_744 := tgt BK744 hg; replace BK744 := tBb BK744 hb; clear hb hbox hg; have hnb39 := NB744_745.out; have hnc39 := NB745_744.out; obtain ⟨hcz40_0, hcz40_1, hcz40_2, hcz40_3, hcz40_4, hcz40_5, hfz40_0, hfz40_1, hfz40_2, hfz40_3, hfz40_4, hfz40_5⟩ := cells6 BK744.out; obtain ⟨hcz41_0, hcz41_1, hcz41_2, hcz41_3, hcz41_4, hcz41_5, hfz41_0, hfz41_1, hfz41_2, hfz41_3, hfz41_4, hfz41_5⟩ := cells6 BK745.out))
     go_ret
     exact ⟨by first | rfl | (simp [errW_none, errW_some] <;> rfl) | (simp [*, errW_none, errW_some] <;> rfl), zb⟩
   ·rw [if_neg c15] at H
    have c15b0 : (a0_2 == a1_2) = false := beq_eq_false_iff_ne.mpr c15
    have c15b1 : (a0_2 != a1_2) = true := bne_iff_ne.mpr c15
    obtain rfl := Option.some.inj H
    go_enter Try.func33, Try.ntmps33
    go_wp2_with (first | ((with_reducible refine gate_dst (N := 2) rfl ?_); refine box_event ?hg (N := 2) ?hd (cs := #[.bool a0_0, .bool a0_1, .int .i64 a0_2, .int .i64 a0_3, .int .i64 a0_4, .slice A0_5 l0_5.length c0_5]) (t := 46) ?hr ?_; (case hd => rfl); (case hg => rfl); (case hr => first | (go_simp; done) | (go_simp; rfl)); intro gb744 hg w42 hbox hb; have BK744 := Aside0.mk (hbox); have GW744 := tge HB hg; have GE744 := tge HB hg; replace HB := tBs HB hb; clear hb hbox hg) | ((with_reducible refine gate_dst (N := 3) rfl ?_); refine box_event ?hg (N := 3) ?hd (cs := #[.bool a1_0, .bool a1_1, .int .i64 a1_2, .int .i64 a1_3, .int .i64 a1_4, .slice A1_5 l1_5.length c1_5]) (t := 46) ?hr ?_; (case hd => rfl); (case hg => rfl); (case hr => first | (go_simp; done) | (go_simp; rfl)); intro gb745 hg w43 hbox hb; have BK745 := Aside0.mk (hbox); have GW745 := tge HB hg; have GE745 := tge HB hg; replace HB := tBs HB hb; have NB744_745 := tlt BK744 hg; have NB745_744 := tgt BK744 hg; replace BK744 := tBb BK744 hb; clear hb hbox hg; have hnb44 := NB744_745.out; have hnc44 := NB745_744.out; obtain ⟨hcz45_0, hcz45_1, hcz45_2, hcz45_3, hcz45_4, hcz45_5, hfz45_0, hfz45_1, hfz45_2, hfz45_3, hfz45_4, hfz45_5⟩ := cells6 BK744.out; obtain ⟨hcz46_0, hcz46_1, hcz46_2, hcz46_3, hcz46_4, hcz46_5, hfz46_0, hfz46_1, hfz46_2, hfz46_3, hfz46_4, hfz46_5⟩ := cells6 BK745.out))
    go_ret
    exact ⟨by first | rfl | (simp [errW_none, errW_some] <;> rfl) | (simp [*, errW_none, errW_some] <;> rfl), zb⟩

def laws_eqBatchS.l0 : Nat → List (S46) → List (S46) → Int → Option (Bool)
 | 0, _, _, _ => none
 | k + 1, x0, x1, x5 => if x5 < (x0.length : Int) then (if 0 ≤ x5 then (if x5 < (x1.length : Int) then ((laws_eqBatch.f k ((rd_T46 x0 x5).f0) ((rd_T46 x0 x5).f1) ((rd_T46 x0 x5).f2) ((rd_T46 x0 x5).f3) ((rd_T46 x0 x5).f4) ((rd_T46 x0 x5).f5) ((rd_T46 x1 x5).f0) ((rd_T46 x1 x5).f1) ((rd_T46 x1 x5).f2) ((rd_T46 x1 x5).f3) ((rd_T46 x1 x5).f4) ((rd_T46 x1 x5).f5)).bind fun t749 => (if t749 = true then (laws_eqBatchS.l0 k x0 x1 (wrap64 (x5 + 1))) else (some false))) else (none)) else (none)) else (some true)
def laws_eqBatchS.f (k : Nat) (l0 : List (S46)) (l1 : List (S46)) : Option (Bool) := if (l0.length : Int) = (l1.length : Int) then (laws_eqBatchS.l0 k l0 l1 0) else (some false)
def laws_eqBatchS.T6 : Bool × List (List Nat × List Nat) := (true, [([], []), ([], []), ([0, 1], [0, 1]), ([2], [2]), ([], []), ([], []), ([4, 5], [4, 5]), ([6], [6]), ([3, 7], [3, 7]), ([8], [8])])
def laws_eqBatchS.B6 : List Nat := [0, 0, 3, 7, 0, 0, 48, 112, 255, 511]
theorem laws_eqBatchS.tab6 : rtab .any (opsOf Try.f18 6) = laws_eqBatchS.T6 := by kernel_rfl
theorem laws_eqBatchS.bits6 : waitsOk laws_eqBatchS.T6.2 laws_eqBatchS.B6 = true := by kernel_rfl
set_option maxHeartbeats 8000000 in
set_option maxRecDepth 100000 in
theorem laws_eqBatchS.calls (k : Nat) (A0 : Option Addr) (c0 : Nat) (l0 : List (S46)) (A1 : Option Addr) (c1 : Nat) (l1 : List (S46)) (r : Bool) (w : World) (hr0 : Kd.C k46 w A0 l0.length l0) (hc0 : l0.length ≤ c0) (hr1 : Kd.C k46 w A1 l1.length l1) (hc1 : l1.length ≤ c1) (h : laws_eqBatchS.f k l0 l1 = some r) :
  Calls Try.prog 18 #[.slice A0 l0.length c0, .slice A1 l1.length c1] w fun e w' => e = .returned (.bool r) ∧ Below w.heap.size w w' := by
 have hu46 := Try.underlying46
 have HR0 := Aside0.mk hr0
 have HC0 := Aside0.mk hc0
 clear hr0 hc0
 have HR1 := Aside0.mk hr1
 have HC1 := Aside0.mk hc1
 clear hr1 hc1
 have HB := Aside0.mk (Below.refl w.heap.size w)
 have H : (if (l0.length : Int) = (l1.length : Int) then (laws_eqBatchS.l0 k l0 l1 0) else (some false)) = some r := h
 clear h
 by_cases c3 : (l0.length : Int) = (l1.length : Int)
 ·rw [if_pos c3] at H
  have c3b0 : ((l0.length : Int) == (l1.length : Int)) = true := beq_iff_eq.mpr c3
  have c3b1 : ((l0.length : Int) != (l1.length : Int)) = false := bne_eq_false_iff_eq.mpr c3
  have c3b2 : (l0.length == l1.length) = true := by first | simpa using c3 | (simp at c3 ⊢; omega)
  clear c3
  have H' := Aside0.mk H
  clear H
  go_enter Try.func18, Try.ntmps18
  go_wp2
  go_loopg [5] k (fun kq v5 w' => ∃ (x5_1 : Int), v5 = .int .i64 x5_1 ∧ Aside0 (laws_eqBatchS.l0 kq l0 l1 x5_1 = some r) ∧ Aside0 (kq ≤ k) ∧ Aside0 (Below w.heap.size w w'))
  case atStart => exact ⟨(0), tr, H', ⟨Nat.le_refl _⟩, ⟨zb⟩⟩
  case round =>
   clear H'
   try clear c1; try clear c3; try clear c3b0; try clear c3b1; try clear c3b2
   obtain ⟨x5_1, rfl, HA, HK1, HB⟩ := hrel
   cases gk with
   | zero => exact absurd HA.out (by simp [laws_eqBatchS.l0])
   | succ k1 =>
    have H := HA.out
    clear HA
    simp only [laws_eqBatchS.l0] at H
    by_cases c4 : x5_1 < (l0.length : Int)
    ·rw [if_pos c4] at H
     have c4b0 : decide (x5_1 < (l0.length : Int)) = true := decide_eq_true c4
     clear c4
     by_cases c5 : 0 ≤ x5_1
     ·rw [if_pos c5] at H
      have c5b0 : decide (0 ≤ x5_1) = true := decide_eq_true c5
      clear c5
      by_cases c6 : x5_1 < (l1.length : Int)
      ·rw [if_pos c6] at H
       have c6b0 : decide (x5_1 < (l1.length : Int)) = true := decide_eq_true c6
       clear c6
       replace H := tbe H
       obtain ⟨t749, A7, H⟩ := H
       by_cases c8 : t749 = true
       ·subst c8
        rw [if_pos rfl] at H
        have H' := Aside0.mk H
        clear H
        try go_wp2
        replace HB := Aside0.mk (below_drew1 HB.out)
        have p747 : 0 ≤ (x5_1 : Int) := td
        have q747 : x5_1 < (l0.length : Int) := td
        obtain ⟨ad747, A747_5, c747_5, e747, hx747_0, hx747_1, hx747_2, hx747_3, hx747_4, hx747_5, hl747_5, hi747_5⟩ := at_T46 HR0.out x5_1 p747 q747
        have hw747_5 := hx747_5
        have hw747_4 := hx747_4
        have hw747_3 := hx747_3
        have hw747_2 := hx747_2
        have hw747_1 := hx747_1
        have hw747_0 := hx747_0
        cases e747
        replace hx747_0 := tcl HB hx747_0
        replace hx747_1 := tcl HB hx747_1
        replace hx747_2 := tcl HB hx747_2
        replace hx747_3 := tcl HB hx747_3
        replace hx747_4 := tcl HB hx747_4
        replace hx747_5 := tcl HB hx747_5
        have HR747_5 := Aside0.mk hi747_5
        have HC747_5 := Aside0.mk hl747_5
        clear hi747_5 hl747_5
        replace p747 := eq_true p747
        replace q747 := eq_true q747
        have p748 : 0 ≤ (x5_1 : Int) := td
        have q748 : x5_1 < (l1.length : Int) := td
        obtain ⟨ad748, A748_5, c748_5, e748, hx748_0, hx748_1, hx748_2, hx748_3, hx748_4, hx748_5, hl748_5, hi748_5⟩ := at_T46 HR1.out x5_1 p748 q748
        have hw748_5 := hx748_5
        have hw748_4 := hx748_4
        have hw748_3 := hx748_3
        have hw748_2 := hx748_2
        have hw748_1 := hx748_1
        have hw748_0 := hx748_0
        cases e748
        replace hx748_0 := tcl HB hx748_0
        replace hx748_1 := tcl HB hx748_1
        replace hx748_2 := tcl HB hx748_2
        replace hx748_3 := tcl HB hx748_3
        replace hx748_4 := tcl HB hx748_4
        replace hx748_5 := tcl HB hx748_5
        have HR748_5 := Aside0.mk hi748_5
        have HC748_5 := Aside0.mk hl748_5
        clear hi748_5 hl748_5
        replace p748 := eq_true p748
        replace q748 := eq_true q748
        refine start_ (n := 10) (S := fun w' => w'.cell? (ad747.add ((x5_1).toNat * 6)) = some (.bool ((rd_T46 l0 x5_1).f0)) ∧ w'.cell? ⟨(ad747.add ((x5_1).toNat * 6)).block, (ad747.add ((x5_1).toNat * 6)).off + 1, none⟩ = some (.bool ((rd_T46 l0 x5_1).f1)) ∧ w'.cell? ⟨(ad747.add ((x5_1).toNat * 6)).block, (ad747.add ((x5_1).toNat * 6)).off + 2, none⟩ = some (.int .i64 ((rd_T46 l0 x5_1).f2)) ∧ w'.cell? ⟨(ad747.add ((x5_1).toNat * 6)).block, (ad747.add ((x5_1).toNat * 6)).off + 3, none⟩ = some (.int .i64 ((rd_T46 l0 x5_1).f3)) ∧ w'.cell? ⟨(ad747.add ((x5_1).toNat * 6)).block, (ad747.add ((x5_1).toNat * 6)).off + 4, none⟩ = some (.int .i64 ((rd_T46 l0 x5_1).f4)) ∧ w'.cell? ⟨(ad747.add ((x5_1).toNat * 6)).block, (ad747.add ((x5_1).toNat * 6)).off + 5, none⟩ = some (.slice A747_5 ((rd_T46 l0 x5_1).f5).length c747_5) ∧ w'.cell? (ad748.add ((x5_1).toNat * 6)) = some (.bool ((rd_T46 l1 x5_1).f0)) ∧ w'.cell? ⟨(ad748.add ((x5_1).toNat * 6)).block, (ad748.add ((x5_1).toNat * 6)).off + 1, none⟩ = some (.bool ((rd_T46 l1 x5_1).f1)) ∧ w'.cell? ⟨(ad748.add ((x5_1).toNat * 6)).block, (ad748.add ((x5_1).toNat * 6)).off + 2, none⟩ = some (.int .i64 ((rd_T46 l1 x5_1).f2)) ∧ w'.cell? ⟨(ad748.add ((x5_1).toNat * 6)).block, (ad748.add ((x5_1).toNat * 6)).off + 3, none⟩ = some (.int .i64 ((rd_T46 l1 x5_1).f3)) ∧ w'.cell? ⟨(ad748.add ((x5_1).toNat * 6)).block, (ad748.add ((x5_1).toNat * 6)).off + 4, none⟩ = some (.int .i64 ((rd_T46 l1 x5_1).f4)) ∧ w'.cell? ⟨(ad748.add ((x5_1).toNat * 6)).block, (ad748.add ((x5_1).toNat * 6)).off + 5, none⟩ = some (.slice A748_5 ((rd_T46 l1 x5_1).f5).length c748_5)) (ds := []) #[false, false, false, false, false, false, false, false, false, false] (by kernel_rfl) rfl rfl ⟨(tcl HB hw747_0), (tcl HB hw747_1), (tcl HB hw747_2), (tcl HB hw747_3), (tcl HB hw747_4), (tcl HB hw747_5), (tcl HB hw748_0), (tcl HB hw748_1), (tcl HB hw748_2), (tcl HB hw748_3), (tcl HB hw748_4), (tcl HB hw748_5)⟩ (fun hHeld => ?_); refine with_tabW laws_eqBatchS.tab6 laws_eqBatchS.bits6 (fun HT_ HW_ => ?_)
        generalize wr.drew = w9 at HB HR747_5 HR748_5 hx747_0 hx747_1 hx747_2 hx747_3 hx747_4 hx747_5 hx748_0 hx748_1 hx748_2 hx748_3 hx748_4 hx748_5 hHeld ⊢
        refine tpu 0 (some 17) #[true, false, false, false, false, false, false, false, false, false] ?_
        refine tpu 1 (some 18) #[true, true, false, false, false, false, false, false, false, false] ?_
        refine tpu 2 (some 19) #[true, true, true, false, false, false, false, false, false, false] ?_
        refine tpu 4 (some 21) #[true, true, true, false, true, false, false, false, false, false] ?_
        refine tpu 5 (some 22) #[true, true, true, false, true, true, false, false, false, false] ?_
        refine tpu 6 (some 23) #[true, true, true, false, true, true, true, false, false, false] ?_
        refine tta 3 (some 20) #[true, true, true, true, true, true, true, false, false, false] hHeld ?_ (hy := by rintro w' ⟨s0, s1, s2, s3, s4, s5, s6, s7, s8, s9, s10, s11⟩; go_simp; with_reducible rfl)
        refine tta 7 (some 24) #[true, true, true, true, true, true, true, true, false, false] hHeld ?_ (hy := by rintro w' ⟨s0, s1, s2, s3, s4, s5, s6, s7, s8, s9, s10, s11⟩; go_simp; with_reducible rfl)
        refine one_ (i := 8) (N := some 25) #[true, true, true, true, true, true, true, true, true, false] rfl rfl (one_of HT_.out (by kernel_rfl)) (by decide) (fun K hK => ?_)
        refine goes_ Try.func33 (by kernel_rfl) rfl #[.agg #[.bool ((rd_T46 l0 x5_1).f0), .bool ((rd_T46 l0 x5_1).f1), .int .i64 ((rd_T46 l0 x5_1).f2), .int .i64 ((rd_T46 l0 x5_1).f3), .int .i64 ((rd_T46 l0 x5_1).f4), .slice A747_5 ((rd_T46 l0 x5_1).f5).length c747_5], .agg #[.bool ((rd_T46 l1 x5_1).f0), .bool ((rd_T46 l1 x5_1).f1), .int .i64 ((rd_T46 l1 x5_1).f2), .int .i64 ((rd_T46 l1 x5_1).f3), .int .i64 ((rd_T46 l1 x5_1).f4), .slice A748_5 ((rd_T46 l1 x5_1).f5).length c748_5]] (by rfl) rfl rfl tq ?_
        with_reducible refine (laws_eqBatch.calls k1 ((rd_T46 l0 x5_1).f0) ((rd_T46 l0 x5_1).f1) ((rd_T46 l0 x5_1).f2) ((rd_T46 l0 x5_1).f3) ((rd_T46 l0 x5_1).f4) _ _ ((rd_T46 l0 x5_1).f5) ((rd_T46 l1 x5_1).f0) ((rd_T46 l1 x5_1).f1) ((rd_T46 l1 x5_1).f2) ((rd_T46 l1 x5_1).f3) ((rd_T46 l1 x5_1).f4) _ _ ((rd_T46 l1 x5_1).f5) true _ ?side1 ?side2 ?side3 ?side4 A7.out).mono ?_
        (case side1 => exact tC (Kd.C_below HR747_5.out HB.out))
        (case side2 => exact HC747_5.out)
        (case side3 => exact tC (Kd.C_below HR748_5.out HB.out))
        (case side4 => exact HC748_5.out)
        rintro e w10 ⟨rfl, hb⟩
        refine ⟨_, rfl, ?_⟩
        replace HB := tBs HB hb
        (try clear hb)
        (try clear hb2)
        (try clear hk)
        (try clear hi)
        refine hK.out _ _ ⟨(tcl HB hw747_0), (tcl HB hw747_1), (tcl HB hw747_2), (tcl HB hw747_3), (tcl HB hw747_4), (tcl HB hw747_5), (tcl HB hw748_0), (tcl HB hw748_1), (tcl HB hw748_2), (tcl HB hw748_3), (tcl HB hw748_4), (tcl HB hw748_5)⟩ (fun hHeld => ?_)
        clear hK K
        refine tnm (some 25) ?_
        refine tpu 9 (some 26) #[true, true, true, true, true, true, true, true, true, true] ?_
        refine done_ (done_of HT_.out (by kernel_rfl)) ?_
        try go_wp2
        go_roundg k1
        case measure => have := HK1.out; omega
        case rel => exact ⟨(wrap64 (x5_1 + 1)), tr, H', ⟨by have := HK1.out; omega⟩, ⟨zb⟩⟩
       ·replace c8 := Bool.eq_false_iff.mpr c8
        subst c8
        rw [if_neg (show ¬ (false = true) by decide)] at H
        obtain rfl := Option.some.inj H
        try go_wp2
        replace HB := Aside0.mk (below_drew1 HB.out)
        have p747 : 0 ≤ (x5_1 : Int) := td
        have q747 : x5_1 < (l0.length : Int) := td
        obtain ⟨ad747, A747_5, c747_5, e747, hx747_0, hx747_1, hx747_2, hx747_3, hx747_4, hx747_5, hl747_5, hi747_5⟩ := at_T46 HR0.out x5_1 p747 q747
        have hw747_5 := hx747_5
        have hw747_4 := hx747_4
        have hw747_3 := hx747_3
        have hw747_2 := hx747_2
        have hw747_1 := hx747_1
        have hw747_0 := hx747_0
        cases e747
        replace hx747_0 := tcl HB hx747_0
        replace hx747_1 := tcl HB hx747_1
        replace hx747_2 := tcl HB hx747_2
        replace hx747_3 := tcl HB hx747_3
        replace hx747_4 := tcl HB hx747_4
        replace hx747_5 := tcl HB hx747_5
        have HR747_5 := Aside0.mk hi747_5
        have HC747_5 := Aside0.mk hl747_5
        clear hi747_5 hl747_5
        replace p747 := eq_true p747
        replace q747 := eq_true q747
        have p748 : 0 ≤ (x5_1 : Int) := td
        have q748 : x5_1 < (l1.length : Int) := td
        obtain ⟨ad748, A748_5, c748_5, e748, hx748_0, hx748_1, hx748_2, hx748_3, hx748_4, hx748_5, hl748_5, hi748_5⟩ := at_T46 HR1.out x5_1 p748 q748
        have hw748_5 := hx748_5
        have hw748_4 := hx748_4
        have hw748_3 := hx748_3
        have hw748_2 := hx748_2
        have hw748_1 := hx748_1
        have hw748_0 := hx748_0
        cases e748
        replace hx748_0 := tcl HB hx748_0
        replace hx748_1 := tcl HB hx748_1
        replace hx748_2 := tcl HB hx748_2
        replace hx748_3 := tcl HB hx748_3
        replace hx748_4 := tcl HB hx748_4
        replace hx748_5 := tcl HB hx748_5
        have HR748_5 := Aside0.mk hi748_5
        have HC748_5 := Aside0.mk hl748_5
        clear hi748_5 hl748_5
        replace p748 := eq_true p748
        replace q748 := eq_true q748
        refine start_ (n := 10) (S := fun w' => w'.cell? (ad747.add ((x5_1).toNat * 6)) = some (.bool ((rd_T46 l0 x5_1).f0)) ∧ w'.cell? ⟨(ad747.add ((x5_1).toNat * 6)).block, (ad747.add ((x5_1).toNat * 6)).off + 1, none⟩ = some (.bool ((rd_T46 l0 x5_1).f1)) ∧ w'.cell? ⟨(ad747.add ((x5_1).toNat * 6)).block, (ad747.add ((x5_1).toNat * 6)).off + 2, none⟩ = some (.int .i64 ((rd_T46 l0 x5_1).f2)) ∧ w'.cell? ⟨(ad747.add ((x5_1).toNat * 6)).block, (ad747.add ((x5_1).toNat * 6)).off + 3, none⟩ = some (.int .i64 ((rd_T46 l0 x5_1).f3)) ∧ w'.cell? ⟨(ad747.add ((x5_1).toNat * 6)).block, (ad747.add ((x5_1).toNat * 6)).off + 4, none⟩ = some (.int .i64 ((rd_T46 l0 x5_1).f4)) ∧ w'.cell? ⟨(ad747.add ((x5_1).toNat * 6)).block, (ad747.add ((x5_1).toNat * 6)).off + 5, none⟩ = some (.slice A747_5 ((rd_T46 l0 x5_1).f5).length c747_5) ∧ w'.cell? (ad748.add ((x5_1).toNat * 6)) = some (.bool ((rd_T46 l1 x5_1).f0)) ∧ w'.cell? ⟨(ad748.add ((x5_1).toNat * 6)).block, (ad748.add ((x5_1).toNat * 6)).off + 1, none⟩ = some (.bool ((rd_T46 l1 x5_1).f1)) ∧ w'.cell? ⟨(ad748.add ((x5_1).toNat * 6)).block, (ad748.add ((x5_1).toNat * 6)).off + 2, none⟩ = some (.int .i64 ((rd_T46 l1 x5_1).f2)) ∧ w'.cell? ⟨(ad748.add ((x5_1).toNat * 6)).block, (ad748.add ((x5_1).toNat * 6)).off + 3, none⟩ = some (.int .i64 ((rd_T46 l1 x5_1).f3)) ∧ w'.cell? ⟨(ad748.add ((x5_1).toNat * 6)).block, (ad748.add ((x5_1).toNat * 6)).off + 4, none⟩ = some (.int .i64 ((rd_T46 l1 x5_1).f4)) ∧ w'.cell? ⟨(ad748.add ((x5_1).toNat * 6)).block, (ad748.add ((x5_1).toNat * 6)).off + 5, none⟩ = some (.slice A748_5 ((rd_T46 l1 x5_1).f5).length c748_5)) (ds := []) #[false, false, false, false, false, false, false, false, false, false] (by kernel_rfl) rfl rfl ⟨(tcl HB hw747_0), (tcl HB hw747_1), (tcl HB hw747_2), (tcl HB hw747_3), (tcl HB hw747_4), (tcl HB hw747_5), (tcl HB hw748_0), (tcl HB hw748_1), (tcl HB hw748_2), (tcl HB hw748_3), (tcl HB hw748_4), (tcl HB hw748_5)⟩ (fun hHeld => ?_); refine with_tabW laws_eqBatchS.tab6 laws_eqBatchS.bits6 (fun HT_ HW_ => ?_)
        generalize wr.drew = w11 at HB HR747_5 HR748_5 hx747_0 hx747_1 hx747_2 hx747_3 hx747_4 hx747_5 hx748_0 hx748_1 hx748_2 hx748_3 hx748_4 hx748_5 hHeld ⊢
        refine tpu 0 (some 17) #[true, false, false, false, false, false, false, false, false, false] ?_
        refine tpu 1 (some 18) #[true, true, false, false, false, false, false, false, false, false] ?_
        refine tpu 2 (some 19) #[true, true, true, false, false, false, false, false, false, false] ?_
        refine tpu 4 (some 21) #[true, true, true, false, true, false, false, false, false, false] ?_
        refine tpu 5 (some 22) #[true, true, true, false, true, true, false, false, false, false] ?_
        refine tpu 6 (some 23) #[true, true, true, false, true, true, true, false, false, false] ?_
        refine tta 3 (some 20) #[true, true, true, true, true, true, true, false, false, false] hHeld ?_ (hy := by rintro w' ⟨s0, s1, s2, s3, s4, s5, s6, s7, s8, s9, s10, s11⟩; go_simp; with_reducible rfl)
        refine tta 7 (some 24) #[true, true, true, true, true, true, true, true, false, false] hHeld ?_ (hy := by rintro w' ⟨s0, s1, s2, s3, s4, s5, s6, s7, s8, s9, s10, s11⟩; go_simp; with_reducible rfl)
        refine one_ (i := 8) (N := some 25) #[true, true, true, true, true, true, true, true, true, false] rfl rfl (one_of HT_.out (by kernel_rfl)) (by decide) (fun K hK => ?_)
        refine goes_ Try.func33 (by kernel_rfl) rfl #[.agg #[.bool ((rd_T46 l0 x5_1).f0), .bool ((rd_T46 l0 x5_1).f1), .int .i64 ((rd_T46 l0 x5_1).f2), .int .i64 ((rd_T46 l0 x5_1).f3), .int .i64 ((rd_T46 l0 x5_1).f4), .slice A747_5 ((rd_T46 l0 x5_1).f5).length c747_5], .agg #[.bool ((rd_T46 l1 x5_1).f0), .bool ((rd_T46 l1 x5_1).f1), .int .i64 ((rd_T46 l1 x5_1).f2), .int .i64 ((rd_T46 l1 x5_1).f3), .int .i64 ((rd_T46 l1 x5_1).f4), .slice A748_5 ((rd_T46 l1 x5_1).f5).length c748_5]] (by rfl) rfl rfl tq ?_
        with_reducible refine (laws_eqBatch.calls k1 ((rd_T46 l0 x5_1).f0) ((rd_T46 l0 x5_1).f1) ((rd_T46 l0 x5_1).f2) ((rd_T46 l0 x5_1).f3) ((rd_T46 l0 x5_1).f4) _ _ ((rd_T46 l0 x5_1).f5) ((rd_T46 l1 x5_1).f0) ((rd_T46 l1 x5_1).f1) ((rd_T46 l1 x5_1).f2) ((rd_T46 l1 x5_1).f3) ((rd_T46 l1 x5_1).f4) _ _ ((rd_T46 l1 x5_1).f5) false _ ?side1 ?side2 ?side3 ?side4 A7.out).mono ?_
        (case side1 => exact tC (Kd.C_below HR747_5.out HB.out))
        (case side2 => exact HC747_5.out)
        (case side3 => exact tC (Kd.C_below HR748_5.out HB.out))
        (case side4 => exact HC748_5.out)
        rintro e w12 ⟨rfl, hb⟩
        refine ⟨_, rfl, ?_⟩
        replace HB := tBs HB hb
        (try clear hb)
        (try clear hb2)
        (try clear hk)
        (try clear hi)
        refine hK.out _ _ ⟨(tcl HB hw747_0), (tcl HB hw747_1), (tcl HB hw747_2), (tcl HB hw747_3), (tcl HB hw747_4), (tcl HB hw747_5), (tcl HB hw748_0), (tcl HB hw748_1), (tcl HB hw748_2), (tcl HB hw748_3), (tcl HB hw748_4), (tcl HB hw748_5)⟩ (fun hHeld => ?_)
        clear hK K
        refine tnm (some 25) ?_
        refine tpu 9 (some 26) #[true, true, true, true, true, true, true, true, true, true] ?_
        refine done_ (done_of HT_.out (by kernel_rfl)) ?_
        try go_wp2
        go_ret
        exact ⟨by first | rfl | (simp [errW_none, errW_some] <;> rfl) | (simp [*, errW_none, errW_some] <;> rfl), zb⟩
      ·rw [if_neg c6] at H
       exact absurd H (by simp)
     ·rw [if_neg c5] at H
      exact absurd H (by simp)
    ·rw [if_neg c4] at H
     have c4b0 : decide (x5_1 < (l0.length : Int)) = false := decide_eq_false c4
     clear c4
     obtain rfl := Option.some.inj H
     go_wp2
     go_ret
     exact ⟨by first | rfl | (simp [errW_none, errW_some] <;> rfl) | (simp [*, errW_none, errW_some] <;> rfl), zb⟩
 ·rw [if_neg c3] at H
  have c3b0 : ((l0.length : Int) == (l1.length : Int)) = false := beq_eq_false_iff_ne.mpr c3
  have c3b1 : ((l0.length : Int) != (l1.length : Int)) = true := bne_iff_ne.mpr c3
  have c3b2 : (l0.length == l1.length) = false := by first | simpa using c3 | (simp at c3 ⊢; omega)
  obtain rfl := Option.some.inj H
  go_enter Try.func18, Try.ntmps18
  go_wp2
  go_ret
  exact ⟨by first | rfl | (simp [errW_none, errW_some] <;> rfl) | (simp [*, errW_none, errW_some] <;> rfl), zb⟩

end Go.Proofs.Ythoioccmnphfgaa.G

namespace Go.Proofs.Ythoioccmnphfgaa.G
open Go.RowKit Go.Proofs.YthoioccmnphfgaaW.PrintWords Go.Proofs.YthoioccmnphfgaaW.PrintLast Go.Proofs.YthoioccmnphfgaaW.PrintMore
attribute [local go_sem] max2_int min2_int max_two min_two max_three min_three max_four min_four   -- for this text's walks alone
set_option linter.unusedVariables false
set_option linter.unusedSimpArgs false

def laws_FnExactLogSize.f (k : Nat) (l0 : List (S56)) : Option (Bool) := (laws_szBatchS.f k l0 1048576).bind fun t750 => (if t750 < 0 then (some true) else ((laws_toBatchS.f k l0).bind fun t751 => ((spec_LogSize.f k t751).bind fun t754 => ((laws_toBatchS.f k l0).bind fun t755 => ((impl_LogSize.f k t755).bind fun t758 => (if t758 = t754 then ((laws_toBatchS.f k l0).bind fun t759 => ((laws_eqBatchS.f k t755 t759).bind fun t762 => (if t762 = true then (some true) else (some false)))) else (some false)))))))
set_option maxHeartbeats 8000000 in
set_option maxRecDepth 100000 in
theorem laws_FnExactLogSize.calls (k : Nat) (A0 : Option Addr) (c0 : Nat) (l0 : List (S56)) (r : Bool) (w : World) (hr0 : Kd.C k56 w A0 l0.length l0) (hc0 : l0.length ≤ c0) (h : laws_FnExactLogSize.f k l0 = some r) :
  Calls Try.prog 7 #[.slice A0 l0.length c0] w fun e w' => e = .returned (.bool r) ∧ Below w.heap.size w w' := by
 have HR0 := Aside0.mk hr0
 have HC0 := Aside0.mk hc0
 clear hr0 hc0
 have HB := Aside0.mk (Below.refl w.heap.size w)
 have H : ((laws_szBatchS.f k l0 1048576).bind fun t750 => (if t750 < 0 then (some true) else ((laws_toBatchS.f k l0).bind fun t751 => ((spec_LogSize.f k t751).bind fun t754 => ((laws_toBatchS.f k l0).bind fun t755 => ((impl_LogSize.f k t755).bind fun t758 => (if t758 = t754 then ((laws_toBatchS.f k l0).bind fun t759 => ((laws_eqBatchS.f k t755 t759).bind fun t762 => (if t762 = true then (some true) else (some false)))) else (some false)))))))) = some r := h
 clear h
 replace H := tbe H
 obtain ⟨t750, A2, H⟩ := H
 by_cases c3 : t750 < 0
 ·rw [if_pos c3] at H
  have c3b0 : decide (t750 < 0) = true := decide_eq_true c3
  clear c3
  obtain rfl := Option.some.inj H
  go_enter Try.func7, Try.ntmps7
  go_wp2_with (first | ((with_reducible refine gate_callee (f := 16) rfl ?_); refine goesL_ (some 9) rfl rfl Try.func16 (by kernel_rfl) rfl #[.slice A0 l0.length c0, .int .i64 1048576] rfl tq ?_; (with_reducible refine (laws_szBatchS.calls k _ _ l0 1048576 t750 _ ?side1 ?side2 A2.out).mono ?_); (case side1 => exact tC HR0.out); (case side2 => exact HC0.out); rintro e w4 ⟨rfl, hb⟩; refine ⟨_, rfl, ?_⟩; replace HB := tBs HB hb; (try clear hb); (try clear hb2); (try clear hk); (try clear hi)))
  all_goals go_ret
  all_goals exact ⟨by first | rfl | (simp [errW_none, errW_some] <;> rfl) | (simp [*, errW_none, errW_some] <;> rfl), zb⟩
 ·rw [if_neg c3] at H
  have c3b0 : decide (t750 < 0) = false := decide_eq_false c3
  clear c3
  replace H := tbe H
  obtain ⟨t751, A5, H⟩ := H
  replace H := tbe H
  obtain ⟨t754, A6, H⟩ := H
  replace H := tbe H
  obtain ⟨t755, A7, H⟩ := H
  replace H := tbe H
  obtain ⟨t758, A8, H⟩ := H
  by_cases c9 : t758 = t754
  ·rw [if_pos c9] at H
   have c9b0 : (t758 == t754) = true := beq_iff_eq.mpr c9
   have c9b1 : (t758 != t754) = false := bne_eq_false_iff_eq.mpr c9
   clear c9
   replace H := tbe H
   obtain ⟨t759, A10, H⟩ := H
   replace H := tbe H
   obtain ⟨t762, A11, H⟩ := H
   by_cases c12 : t762 = true
   ·subst c12
    rw [if_pos rfl] at H
    obtain rfl := Option.some.inj H
    go_enter Try.func7, Try.ntmps7
    go_wp2_with (first | ((with_reducible refine gate_callee (f := 16) rfl ?_); refine goesL_ (some 9) rfl rfl Try.func16 (by kernel_rfl) rfl #[.slice A0 l0.length c0, .int .i64 1048576] rfl tq ?_; (with_reducible refine (laws_szBatchS.calls k _ _ l0 1048576 t750 _ ?side1 ?side2 A2.out).mono ?_); (case side1 => exact tC HR0.out); (case side2 => exact HC0.out); rintro e w13 ⟨rfl, hb⟩; refine ⟨_, rfl, ?_⟩; replace HB := tBs HB hb; (try clear hb); (try clear hb2); (try clear hk); (try clear hi)) | ((with_reducible refine gate_callee (f := 17) rfl ?_); refine goesL_ (some 13) rfl rfl Try.func17 (by kernel_rfl) rfl #[.slice A0 l0.length c0] rfl tq ?_; (with_reducible refine (laws_toBatchS.calls k _ _ l0 t751 _ ?side1 ?side2 A5.out).mono ?_); (case side1 => exact tC (Kd.C_below HR0.out HB.out)); (case side2 => exact HC0.out); rintro e w14 ⟨v752, rfl, ho0, hb⟩; have u_v752 := tsv Try.prog v752 ho0; refine ⟨_, rfl, ?_⟩; have HO753 := tRl ho0 HB; replace HB := tBs HB hb; (try clear hb); (try clear hb2); (try clear hk); (try clear hi); (try clear ho0); obtain ⟨Ao15, co15, eo15⟩ := Kd.R_slice HO753.out; subst eo15) | ((with_reducible refine gate_callee (f := 11) rfl ?_); refine goesL_ (some 14) rfl rfl Try.func11 (by kernel_rfl) rfl #[.slice Ao15 t751.length co15] rfl tq ?_; (with_reducible refine (spec_LogSize.calls k _ _ t751 t754 _ ?side1 ?side2 A6.out).mono ?_); (case side1 => repeat (first | exact (Kd.R_reads' HO753.out).2.2 | (with_reducible refine Kd.C_alloc ?_ _) | (with_reducible refine Kd.C_drewN ?_ _) | (with_reducible refine Kd.C_drew ?_))); (case side2 => exact (Kd.R_reads' HO753.out).2.1); rintro e w16 ⟨rfl, hb⟩; refine ⟨_, rfl, ?_⟩; replace HO753 := tRb HO753 hb; replace HB := tBs HB hb; (try clear hb); (try clear hb2); (try clear hk); (try clear hi)) | ((with_reducible refine gate_callee (f := 17) rfl ?_); refine goesL_ (some 16) rfl rfl Try.func17 (by kernel_rfl) rfl #[.slice A0 l0.length c0] rfl tq ?_; (with_reducible refine (laws_toBatchS.calls k _ _ l0 t755 _ ?side1 ?side2 A7.out).mono ?_); (case side1 => exact tC (Kd.C_below HR0.out HB.out)); (case side2 => exact HC0.out); rintro e w17 ⟨v756, rfl, ho0, hb⟩; have u_v756 := tsv Try.prog v756 ho0; refine ⟨_, rfl, ?_⟩; have HO757 := Aside0.mk (Kd.R_lower (Kd.R_new' ho0 (Kd.R_lt (tR HO753.out))) (below_size zb)); replace HO753 := Aside0.mk (Kd.R_elder' (tR HO753.out) (Kd.R_base ho0) hb); replace HB := tBs HB hb; (try clear hb); (try clear hb2); (try clear hk); (try clear hi); (try clear ho0); obtain ⟨Ao18, co18, eo18⟩ := Kd.R_slice HO757.out; subst eo18) | ((with_reducible refine gate_callee (f := 10) rfl ?_); refine goesL_ (some 18) rfl rfl Try.func10 (by kernel_rfl) rfl #[.slice Ao18 t755.length co18] rfl tq ?_; (with_reducible refine (impl_LogSize.calls k _ _ t755 t758 _ ?side1 ?side2 A8.out).mono ?_); (case side1 => repeat (first | exact (Kd.R_reads' HO757.out).2.2 | (with_reducible refine Kd.C_alloc ?_ _) | (with_reducible refine Kd.C_drewN ?_ _) | (with_reducible refine Kd.C_drew ?_))); (case side2 => exact (Kd.R_reads' HO757.out).2.1); rintro e w19 ⟨rfl, hb⟩; refine ⟨_, rfl, ?_⟩; replace HO753 := tRb HO753 hb; replace HO757 := tRb HO757 hb; replace HB := tBs HB hb; (try clear hb); (try clear hb2); (try clear hk); (try clear hi)) | ((with_reducible refine gate_callee (f := 17) rfl ?_); refine goesL_ (some 24) rfl rfl Try.func17 (by kernel_rfl) rfl #[.slice A0 l0.length c0] rfl tq ?_; (with_reducible refine (laws_toBatchS.calls k _ _ l0 t759 _ ?side1 ?side2 A10.out).mono ?_); (case side1 => exact tC (Kd.C_below HR0.out HB.out)); (case side2 => exact HC0.out); rintro e w20 ⟨v760, rfl, ho0, hb⟩; have u_v760 := tsv Try.prog v760 ho0; refine ⟨_, rfl, ?_⟩; have HO761 := Aside0.mk (Kd.R_lower (Kd.R_new' (Kd.R_new' ho0 (Kd.R_lt (tR HO753.out))) (Kd.R_lt (tR HO757.out))) (below_size zb)); replace HO753 := Aside0.mk (Kd.R_elder' (tR HO753.out) (Kd.R_base ho0) hb); replace HO757 := Aside0.mk (Kd.R_elder' (tR HO757.out) (Kd.R_base ho0) hb); replace HB := tBs HB hb; (try clear hb); (try clear hb2); (try clear hk); (try clear hi); (try clear ho0); obtain ⟨Ao21, co21, eo21⟩ := Kd.R_slice HO761.out; subst eo21) | ((with_reducible refine gate_callee (f := 18) rfl ?_); refine goesL_ (some 25) rfl rfl Try.func18 (by kernel_rfl) rfl #[.slice Ao18 t755.length co18, .slice Ao21 t759.length co21] rfl tq ?_; (with_reducible refine (laws_eqBatchS.calls k _ _ t755 _ _ t759 true _ ?side1 ?side2 ?side3 ?side4 A11.out).mono ?_); (case side1 => repeat (first | exact (Kd.R_reads' HO757.out).2.2 | (with_reducible refine Kd.C_alloc ?_ _) | (with_reducible refine Kd.C_drewN ?_ _) | (with_reducible refine Kd.C_drew ?_))); (case side2 => exact (Kd.R_reads' HO757.out).2.1); (case side3 => repeat (first | exact (Kd.R_reads' HO761.out).2.2 | (with_reducible refine Kd.C_alloc ?_ _) | (with_reducible refine Kd.C_drewN ?_ _) | (with_reducible refine Kd.C_drew ?_))); (case side4 => exact (Kd.R_reads' HO761.out).2.1); rintro e w22 ⟨rfl, hb⟩; refine ⟨_, rfl, ?_⟩; replace HO753 := tRb HO753 hb; replace HO757 := tRb HO757 hb; replace HO761 := tRb HO761 hb; replace HB := tBs HB hb; (try clear hb); (try clear hb2); (try clear hk); (try clear hi)))
    all_goals go_ret
    all_goals exact ⟨by first | rfl | (simp [errW_none, errW_some] <;> rfl) | (simp [*, errW_none, errW_some] <;> rfl), zb⟩
   ·replace c12 := Bool.eq_false_iff.mpr c12
    subst c12
    rw [if_neg (show ¬ (false = true) by decide)] at H
    obtain rfl := Option.some.inj H
    go_enter Try.func7, Try.ntmps7
    go_wp2_with (first | ((with_reducible refine gate_callee (f := 16) rfl ?_); refine goesL_ (some 9) rfl rfl Try.func16 (by kernel_rfl) rfl #[.slice A0 l0.length c0, .int .i64 1048576] rfl tq ?_; (with_reducible refine (laws_szBatchS.calls k _ _ l0 1048576 t750 _ ?side1 ?side2 A2.out).mono ?_); (case side1 => exact tC HR0.out); (case side2 => exact HC0.out); rintro e w23 ⟨rfl, hb⟩; refine ⟨_, rfl, ?_⟩; replace HB := tBs HB hb; (try clear hb); (try clear hb2); (try clear hk); (try clear hi)) | ((with_reducible refine gate_callee (f := 17) rfl ?_); refine goesL_ (some 13) rfl rfl Try.func17 (by kernel_rfl) rfl #[.slice A0 l0.length c0] rfl tq ?_; (with_reducible refine (laws_toBatchS.calls k _ _ l0 t751 _ ?side1 ?side2 A5.out).mono ?_); (case side1 => exact tC (Kd.C_below HR0.out HB.out)); (case side2 => exact HC0.out); rintro e w24 ⟨v752, rfl, ho0, hb⟩; have u_v752 := tsv Try.prog v752 ho0; refine ⟨_, rfl, ?_⟩; have HO753 := tRl ho0 HB; replace HB := tBs HB hb; (try clear hb); (try clear hb2); (try clear hk); (try clear hi); (try clear ho0); obtain ⟨Ao25, co25, eo25⟩ := Kd.R_slice HO753.out; subst eo25) | ((with_reducible refine gate_callee (f := 11) rfl ?_); refine goesL_ (some 14) rfl rfl Try.func11 (by kernel_rfl) rfl #[.slice Ao25 t751.length co25] rfl tq ?_; (with_reducible refine (spec_LogSize.calls k _ _ t751 t754 _ ?side1 ?side2 A6.out).mono ?_); (case side1 => repeat (first | exact (Kd.R_reads' HO753.out).2.2 | (with_reducible refine Kd.C_alloc ?_ _) | (with_reducible refine Kd.C_drewN ?_ _) | (with_reducible refine Kd.C_drew ?_))); (case side2 => exact (Kd.R_reads' HO753.out).2.1); rintro e w26 ⟨rfl, hb⟩; refine ⟨_, rfl, ?_⟩; replace HO753 := tRb HO753 hb; replace HB := tBs HB hb; (try clear hb); (try clear hb2); (try clear hk); (try clear hi)) | ((with_reducible refine gate_callee (f := 17) rfl ?_); refine goesL_ (some 16) rfl rfl Try.func17 (by kernel_rfl) rfl #[.slice A0 l0.length c0] rfl tq ?_; (with_reducible refine (laws_toBatchS.calls k _ _ l0 t755 _ ?side1 ?side2 A7.out).mono ?_); (case side1 => exact tC (Kd.C_below HR0.out HB.out)); (case side2 => exact HC0.out); rintro e w27 ⟨v756, rfl, ho0, hb⟩; have u_v756 := tsv Try.prog v756 ho0; refine ⟨_, rfl, ?_⟩; have HO757 := Aside0.mk (Kd.R_lower (Kd.R_new' ho0 (Kd.R_lt (tR HO753.out))) (below_size zb)); replace HO753 := Aside0.mk (Kd.R_elder' (tR HO753.out) (Kd.R_base ho0) hb); replace HB := tBs HB hb; (try clear hb); (try clear hb2); (try clear hk); (try clear hi); (try clear ho0); obtain ⟨Ao28, co28, eo28⟩ := Kd.R_slice HO757.out; subst eo28) | ((with_reducible refine gate_callee (f := 10) rfl ?_); refine goesL_ (some 18) rfl rfl Try.func10 (by kernel_rfl) rfl #[.slice Ao28 t755.length co28] rfl tq ?_; (with_reducible refine (impl_LogSize.calls k _ _ t755 t758 _ ?side1 ?side2 A8.out).mono ?_); (case side1 => repeat (first | exact (Kd.R_reads' HO757.out).2.2 | (with_reducible refine Kd.C_alloc ?_ _) | (with_reducible refine Kd.C_drewN ?_ _) | (with_reducible refine Kd.C_drew ?_))); (case side2 => exact (Kd.R_reads' HO757.out).2.1); rintro e w29 ⟨rfl, hb⟩; refine ⟨_, rfl, ?_⟩; replace HO753 := tRb HO753 hb; replace HO757 := tRb HO757 hb; replace HB := tBs HB hb; (try clear hb); (try clear hb2); (try clear hk); (try clear hi)) | ((with_reducible refine gate_callee (f := 17) rfl ?_); refine goesL_ (some 24) rfl rfl Try.func17 (by kernel_rfl) rfl #[.slice A0 l0.length c0] rfl tq ?_; (with_reducible refine (laws_toBatchS.calls k _ _ l0 t759 _ ?side1 ?side2 A10.out).mono ?_); (case side1 => exact tC (Kd.C_below HR0.out HB.out)); (case side2 => exact HC0.out); rintro e w30 ⟨v760, rfl, ho0, hb⟩; have u_v760 := tsv Try.prog v760 ho0; refine ⟨_, rfl, ?_⟩; have HO761 := Aside0.mk (Kd.R_lower (Kd.R_new' (Kd.R_new' ho0 (Kd.R_lt (tR HO753.out))) (Kd.R_lt (tR HO757.out))) (below_size zb)); replace HO753 := Aside0.mk (Kd.R_elder' (tR HO753.out) (Kd.R_base ho0) hb); replace HO757 := Aside0.mk (Kd.R_elder' (tR HO757.out) (Kd.R_base ho0) hb); replace HB := tBs HB hb; (try clear hb); (try clear hb2); (try clear hk); (try clear hi); (try clear ho0); obtain ⟨Ao31, co31, eo31⟩ := Kd.R_slice HO761.out; subst eo31) | ((with_reducible refine gate_callee (f := 18) rfl ?_); refine goesL_ (some 25) rfl rfl Try.func18 (by kernel_rfl) rfl #[.slice Ao28 t755.length co28, .slice Ao31 t759.length co31] rfl tq ?_; (with_reducible refine (laws_eqBatchS.calls k _ _ t755 _ _ t759 false _ ?side1 ?side2 ?side3 ?side4 A11.out).mono ?_); (case side1 => repeat (first | exact (Kd.R_reads' HO757.out).2.2 | (with_reducible refine Kd.C_alloc ?_ _) | (with_reducible refine Kd.C_drewN ?_ _) | (with_reducible refine Kd.C_drew ?_))); (case side2 => exact (Kd.R_reads' HO757.out).2.1); (case side3 => repeat (first | exact (Kd.R_reads' HO761.out).2.2 | (with_reducible refine Kd.C_alloc ?_ _) | (with_reducible refine Kd.C_drewN ?_ _) | (with_reducible refine Kd.C_drew ?_))); (case side4 => exact (Kd.R_reads' HO761.out).2.1); rintro e w32 ⟨rfl, hb⟩; refine ⟨_, rfl, ?_⟩; replace HO753 := tRb HO753 hb; replace HO757 := tRb HO757 hb; replace HO761 := tRb HO761 hb; replace HB := tBs HB hb; (try clear hb); (try clear hb2); (try clear hk); (try clear hi)))
    all_goals go_ret
    all_goals exact ⟨by first | rfl | (simp [errW_none, errW_some] <;> rfl) | (simp [*, errW_none, errW_some] <;> rfl), zb⟩
  ·rw [if_neg c9] at H
   have c9b0 : (t758 == t754) = false := beq_eq_false_iff_ne.mpr c9
   have c9b1 : (t758 != t754) = true := bne_iff_ne.mpr c9
   obtain rfl := Option.some.inj H
   go_enter Try.func7, Try.ntmps7
   go_wp2_with (first | ((with_reducible refine gate_callee (f := 16) rfl ?_); refine goesL_ (some 9) rfl rfl Try.func16 (by kernel_rfl) rfl #[.slice A0 l0.length c0, .int .i64 1048576] rfl tq ?_; (with_reducible refine (laws_szBatchS.calls k _ _ l0 1048576 t750 _ ?side1 ?side2 A2.out).mono ?_); (case side1 => exact tC HR0.out); (case side2 => exact HC0.out); rintro e w33 ⟨rfl, hb⟩; refine ⟨_, rfl, ?_⟩; replace HB := tBs HB hb; (try clear hb); (try clear hb2); (try clear hk); (try clear hi)) | ((with_reducible refine gate_callee (f := 17) rfl ?_); refine goesL_ (some 13) rfl rfl Try.func17 (by kernel_rfl) rfl #[.slice A0 l0.length c0] rfl tq ?_; (with_reducible refine (laws_toBatchS.calls k _ _ l0 t751 _ ?side1 ?side2 A5.out).mono ?_); (case side1 => exact tC (Kd.C_below HR0.out HB.out)); (case side2 => exact HC0.out); rintro e w34 ⟨v752, rfl, ho0, hb⟩; have u_v752 := tsv Try.prog v752 ho0; refine ⟨_, rfl, ?_⟩; have HO753 := tRl ho0 HB; replace HB := tBs HB hb; (try clear hb); (try clear hb2); (try clear hk); (try clear hi); (try clear ho0); obtain ⟨Ao35, co35, eo35⟩ := Kd.R_slice HO753.out; subst eo35) | ((with_reducible refine gate_callee (f := 11) rfl ?_); refine goesL_ (some 14) rfl rfl Try.func11 (by kernel_rfl) rfl #[.slice Ao35 t751.length co35] rfl tq ?_; (with_reducible refine (spec_LogSize.calls k _ _ t751 t754 _ ?side1 ?side2 A6.out).mono ?_); (case side1 => repeat (first | exact (Kd.R_reads' HO753.out).2.2 | (with_reducible refine Kd.C_alloc ?_ _) | (with_reducible refine Kd.C_drewN ?_ _) | (with_reducible refine Kd.C_drew ?_))); (case side2 => exact (Kd.R_reads' HO753.out).2.1); rintro e w36 ⟨rfl, hb⟩; refine ⟨_, rfl, ?_⟩; replace HO753 := tRb HO753 hb; replace HB := tBs HB hb; (try clear hb); (try clear hb2); (try clear hk); (try clear hi)) | ((with_reducible refine gate_callee (f := 17) rfl ?_); refine goesL_ (some 16) rfl rfl Try.func17 (by kernel_rfl) rfl #[.slice A0 l0.length c0] rfl tq ?_; (with_reducible refine (laws_toBatchS.calls k _ _ l0 t755 _ ?side1 ?side2 A7.out).mono ?_); (case side1 => exact tC (Kd.C_below HR0.out HB.out)); (case side2 => exact HC0.out); rintro e w37 ⟨v756, rfl, ho0, hb⟩; have u_v756 := tsv Try.prog v756 ho0; refine ⟨_, rfl, ?_⟩; have HO757 := Aside0.mk (Kd.R_lower (Kd.R_new' ho0 (Kd.R_lt (tR HO753.out))) (below_size zb)); replace HO753 := Aside0.mk (Kd.R_elder' (tR HO753.out) (Kd.R_base ho0) hb); replace HB := tBs HB hb; (try clear hb); (try clear hb2); (try clear hk); (try clear hi); (try clear ho0); obtain ⟨Ao38, co38, eo38⟩ := Kd.R_slice HO757.out; subst eo38) | ((with_reducible refine gate_callee (f := 10) rfl ?_); refine goesL_ (some 18) rfl rfl Try.func10 (by kernel_rfl) rfl #[.slice Ao38 t755.length co38] rfl tq ?_; (with_reducible refine (impl_LogSize.calls k _ _ t755 t758 _ ?side1 ?side2 A8.out).mono ?_); (case side1 => repeat (first | exact (Kd.R_reads' HO757.out).2.2 | (with_reducible refine Kd.C_alloc ?_ _) | (with_reducible refine Kd.C_drewN ?_ _) | (with_reducible refine Kd.C_drew ?_))); (case side2 => exact (Kd.R_reads' HO757.out).2.1); rintro e w39 ⟨rfl, hb⟩; refine ⟨_, rfl, ?_⟩; replace HO753 := tRb HO753 hb; replace HO757 := tRb HO757 hb; replace HB := tBs HB hb; (try clear hb); (try clear hb2); (try clear hk); (try clear hi)))
   all_goals go_ret
   all_goals exact ⟨by first | rfl | (simp [errW_none, errW_some] <;> rfl) | (simp [*, errW_none, errW_some] <;> rfl), zb⟩

end Go.Proofs.Ythoioccmnphfgaa.G

namespace Go.Proofs.Ythoioccmnphfgaa.Rd
open Go.RowKit Go.Proofs.YthoioccmnphfgaaW.PrintWords
set_option linter.unusedVariables false
section
variable {H : Type} {enc : TypeId × Value → H} {P : Program} {w : World} {base : Nat} {spare : Nat → Bool} {held : Bool}
/-- What a reading of type t gives: a value of the kind, and what is known of it. -/
def Opens (enc : TypeId × Value → H) (P : Program) (w : World) (base : Nat) (spare : Nat → Bool) (held : Bool) {α : Type} (t : TypeId) (d : Kd α) (ok : α → Prop) : Prop :=
  P.cellsOf t = d.sz ∧ ∀ fuel cs x, DataW.trod enc P w base spare held fuel t cs = some x → ∃ v, d.K w v cs ∧ ok v
theorem Opens.imp_ {α : Type} {t : TypeId} {d : Kd α} {ok ok' : α → Prop} (h : Opens enc P w base spare held t d ok) (hi : ∀ v, ok v → ok' v) : Opens enc P w base spare held t d ok' :=
  ⟨h.1, fun fuel cs x hx => by
    obtain ⟨v, hk, ho⟩ := h.2 fuel cs x hx
    exact ⟨v, hk, hi v ho⟩⟩
theorem opens_int {t : TypeId} {k : IntKind} (ht : P.underlying t = some (.int k)) (hc : P.cellsOf t = 1) : Opens enc P w base spare held t (Kd.int k) (fun n => (Lit.int k n).wf = true) := by
  refine ⟨hc, fun fuel cs x h => ?_⟩
  obtain ⟨n, rfl, _, hw⟩ := DataW.trod_int ht h
  exact ⟨n, rfl, hw⟩
theorem opens_bool {t : TypeId} (ht : P.underlying t = some .bool) (hc : P.cellsOf t = 1) : Opens enc P w base spare held t Kd.bool (fun _ => True) := by
  refine ⟨hc, fun fuel cs x h => ?_⟩
  obtain ⟨n, rfl, _⟩ := DataW.trod_bool ht h
  exact ⟨n, rfl, trivial⟩
theorem cells_len {base : Nat} {a : Addr} {n : Nat} {cs : List Value} (h : w.cells? base a n = some cs) : cs.length = n ∧ ∀ i u, cs[i]? = some u → w.cell? (a.add i) = some u := by
  unfold World.cells? at h
  split at h
  · rename_i hb
    refine ⟨by simpa using mapM_some_length h, fun i u hu => ?_⟩
    have hi : i < n := by
      have := (List.getElem?_eq_some_iff.1 hu).1
      have h2 : cs.length = n := by simpa using mapM_some_length h
      omega
    have := mapM_some_get h i i (by simp [hi])
    rw [hu] at this
    exact this
  · simp at h
theorem opens_row {α : Type} {t e : TypeId} {d : Kd α} {ok : α → Prop} (ht : P.underlying t = some (.slice e)) (hd : Opens enc P w base spare held e d ok) {fuel : Nat} {cs : List Value} {x : DataW H × List MemPlace}
    (h : DataW.trod enc P w base spare held fuel t cs = some x) : ∃ (A : Option Addr) (c : Nat) (xs : List α), cs = [.slice A xs.length c] ∧ xs.length ≤ c ∧ c ≤ maxLen ∧ d.C w A xs.length xs ∧ ∀ y ∈ xs, ok y := by
  rcases Go.Deep.open_slice ht h with ⟨rfl, _⟩ | ⟨a, len, cap, m, n, D, Pl, rfl, hb, hl, hm, hmm, _, hel⟩
  · exact ⟨none, 0, [], rfl, Nat.le_refl _, by unfold maxLen; omega, ⟨rfl, by simp, fun h0 => absurd h0 (by simp)⟩, by simp⟩
  have hlm : len ≤ m := by rw [hmm]; split <;> omega
  have hx : ∀ i, i < len → ∃ y : α, ok y ∧ ∃ c, c.length = d.sz ∧ d.K w y c ∧ ∀ j u, c[j]? = some u → w.cell? (a.add (i * d.sz + j)) = some u := by
    intro i hi
    obtain ⟨cs', h1, h2⟩ := hel i (by omega)
    obtain ⟨y, hk, ho⟩ := hd.2 _ _ _ h2
    obtain ⟨hl', hc'⟩ := cells_len h1
    refine ⟨y, ho, cs', by rw [hl', hd.1], hk, fun j u hu => ?_⟩
    have := hc' j u hu
    rw [Go.Deep.add_add, hd.1] at this
    exact this
  rcases Nat.eq_zero_or_pos len with h0 | h0
  · subst h0
    exact ⟨some a, cap, [], rfl, Nat.zero_le _, hm, ⟨rfl, by simp, fun h1 => absurd h1 (by simp)⟩, by simp⟩
  obtain ⟨y0, _⟩ := hx 0 h0
  haveI : Inhabited α := ⟨y0⟩
  obtain ⟨g, hg⟩ := Go.Deep.choose_lt hx
  have hlen : ((List.range len).map g).length = len := by simp
  refine ⟨some a, cap, (List.range len).map g, by rw [hlen], by rw [hlen]; exact hl, hm, ⟨rfl, by rw [hlen]; unfold maxLen at hm; omega, fun _ => ⟨a, rfl, fun j p hj => ?_⟩⟩, fun y hy => ?_⟩
  · have hj' : j < len := by
      have := (List.getElem?_eq_some_iff.1 hj).1
      omega
    rw [List.getElem?_map, List.getElem?_range hj'] at hj
    simp at hj
    subst hj
    obtain ⟨_, c, hc1, hc2, hc3⟩ := hg j hj'
    exact ⟨c, hc1, hc2, hc3⟩
  · obtain ⟨i, hi, rfl⟩ := List.mem_map.1 hy
    exact (hg i (List.mem_range.1 hi)).1
theorem opens_slice {α : Type} {t e : TypeId} {d : Kd α} {ok : α → Prop} (ht : P.underlying t = some (.slice e)) (hc : P.cellsOf t = 1) (hd : Opens enc P w base spare held e d ok) :
    Opens enc P w base spare held t (Kd.slice e d) (fun xs => xs.length ≤ maxLen ∧ ∀ y ∈ xs, ok y) := by
  refine ⟨hc, fun fuel cs x h => ?_⟩
  obtain ⟨A, c, xs, rfl, hl, hm, hC, ho⟩ := opens_row ht hd h
  exact ⟨xs, ⟨A, c, rfl, hl, hC⟩, Nat.le_trans hl hm, ho⟩
/-- A struct's fields, one behind the other, from a place of its cells on. -/
def OpensAt (enc : TypeId × Value → H) (P : Program) (w : World) (base : Nat) (spare : Nat → Bool) (held : Bool) {α : Type} (fs : List Field) (off : Nat) (d : Kd α) (ok : α → Prop) : Prop :=
  ∀ n (cs : List Value), cs.length = off + d.sz → (∀ f ∈ fs, ∃ x, DataW.trod enc P w base spare held n f.type ((cs.drop f.offset).take (P.cellsOf f.type)) = some x) → ∃ v, d.K w v (cs.drop off) ∧ ok v
theorem opens_last {α : Type} {f : Field} {off : Nat} {d : Kd α} {ok : α → Prop} (ho : f.offset = off) (hd : Opens enc P w base spare held f.type d ok) : OpensAt enc P w base spare held [f] off d ok := by
  intro n cs hl h
  obtain ⟨x, hx⟩ := h f (by simp)
  obtain ⟨v, hk, hok⟩ := hd.2 _ _ _ hx
  rw [ho, hd.1, List.take_of_length_le (by rw [List.length_drop]; omega)] at hk
  exact ⟨v, hk, hok⟩
theorem opens_more {α β : Type} {f : Field} {fs : List Field} {off : Nat} {d : Kd α} {d' : Kd β} {ok : α → Prop} {ok' : β → Prop} (ho : f.offset = off) (hd : Opens enc P w base spare held f.type d ok) (hr : OpensAt enc P w base spare held fs (off + d.sz) d' ok') :
    OpensAt enc P w base spare held (f :: fs) off (Kd.pair d d') (fun v => ok v.1 ∧ ok' v.2) := by
  intro n cs hl h
  have hl' : cs.length = off + (d.sz + d'.sz) := hl
  obtain ⟨x, hx⟩ := h f (by simp)
  obtain ⟨v, hk, hok⟩ := hd.2 _ _ _ hx
  obtain ⟨v', hk', hok'⟩ := hr n cs (by omega) (fun g hg => h g (by simp [hg]))
  rw [ho, hd.1] at hk
  refine ⟨(v, v'), ⟨_, _, ?_, hk, hk'⟩, hok, hok'⟩
  rw [← List.drop_drop, List.take_append_drop]
theorem opens_struct {α β : Type} {t : TypeId} {fs : Array Field} {d : Kd α} {f : β → α} {g : α → β} {ok : α → Prop} (ht : P.underlying t = some (.struct fs)) (hc : P.cellsOf t = d.sz) (hfg : ∀ a, f (g a) = a) (h : OpensAt enc P w base spare held fs.toList 0 d ok) :
    Opens enc P w base spare held t (Kd.iso d f) (fun v => ok (f v)) := by
  refine ⟨hc, fun fuel cs x hx => ?_⟩
  obtain ⟨xs, n, _, _, hl, hxs, hf⟩ := DataW.trod_struct ht hx
  obtain ⟨v, hk, hok⟩ := h n cs (by rw [hl, hc]; omega) (fun fl hfl => by
    obtain ⟨i, hi, rfl⟩ := List.getElem_of_mem hfl
    have hi' : i < fs.size := by simpa using hi
    refine ⟨xs[i]'(by omega), ?_⟩
    have := hf i fs[i] (by simp [hi'])
    rw [List.getElem?_eq_getElem (by omega)] at this
    simpa using this)
  refine ⟨g v, ?_, by show ok (f (g v)); rw [hfg]; exact hok⟩
  show d.K w (f (g v)) cs
  rw [hfg]
  simpa using hk
end
end Go.Proofs.Ythoioccmnphfgaa.Rd

namespace Go.Proofs.Ythoioccmnphfgaa.OFnExactLogSize
open Go.RowKit Go.Proofs.YthoioccmnphfgaaW.PrintWords Go.Proofs.Ythoioccmnphfgaa.G
set_option linter.unusedVariables false
def Ok99 (x : S99) : Prop := ((Lit.int .i64 x.f0).wf = true) ∧ ((Lit.int .i64 x.f1).wf = true) ∧ (True) ∧ (x.f3.length ≤ maxLen ∧ ∀ y ∈ x.f3, (Lit.int .i64 y).wf = true) ∧ (True) ∧ (x.f5.length ≤ maxLen ∧ ∀ y ∈ x.f5, (Lit.int .i64 y).wf = true)
theorem open99 {H : Type} {enc : TypeId × Value → H} {w : World} {base : Nat} {spare : Nat → Bool} {held : Bool} : Rd.Opens enc Try.prog w base spare held 99 k99 Ok99 :=
  Rd.Opens.imp_ (Rd.opens_struct (g := fun p => (⟨p.1, p.2.1, p.2.2.1, p.2.2.2.1, p.2.2.2.2.1, p.2.2.2.2.2⟩ : S99)) Try.underlying99 (by kernel_rfl) (fun _ => rfl) (Rd.opens_more rfl (Rd.opens_int Try.underlying3 (by kernel_rfl)) (Rd.opens_more rfl (Rd.opens_int Try.underlying3 (by kernel_rfl)) (Rd.opens_more rfl (Rd.opens_bool Try.underlying4 (by kernel_rfl)) (Rd.opens_more rfl (Rd.opens_slice Try.underlying26 (by kernel_rfl) (Rd.opens_int Try.underlying3 (by kernel_rfl))) (Rd.opens_more rfl (Rd.opens_bool Try.underlying4 (by kernel_rfl)) (Rd.opens_last rfl (Rd.opens_slice Try.underlying26 (by kernel_rfl) (Rd.opens_int Try.underlying3 (by kernel_rfl)))))))))) (fun _ h => h)
def Ok56 (x : S56) : Prop := (True) ∧ (True) ∧ ((Lit.int .i64 x.f2).wf = true) ∧ ((Lit.int .i64 x.f3).wf = true) ∧ ((Lit.int .i64 x.f4).wf = true) ∧ (x.f5.length ≤ maxLen ∧ ∀ y ∈ x.f5, Ok99 y)
theorem open56 {H : Type} {enc : TypeId × Value → H} {w : World} {base : Nat} {spare : Nat → Bool} {held : Bool} : Rd.Opens enc Try.prog w base spare held 56 k56 Ok56 :=
  Rd.Opens.imp_ (Rd.opens_struct (g := fun p => (⟨p.1, p.2.1, p.2.2.1, p.2.2.2.1, p.2.2.2.2.1, p.2.2.2.2.2⟩ : S56)) Try.underlying56 (by kernel_rfl) (fun _ => rfl) (Rd.opens_more rfl (Rd.opens_bool Try.underlying4 (by kernel_rfl)) (Rd.opens_more rfl (Rd.opens_bool Try.underlying4 (by kernel_rfl)) (Rd.opens_more rfl (Rd.opens_int Try.underlying3 (by kernel_rfl)) (Rd.opens_more rfl (Rd.opens_int Try.underlying3 (by kernel_rfl)) (Rd.opens_more rfl (Rd.opens_int Try.underlying3 (by kernel_rfl)) (Rd.opens_last rfl (Rd.opens_slice Try.underlying54 (by kernel_rfl) open99)))))))) (fun _ h => h)
def Pure : Prop := ∀ (l0 : List (S56)), l0.length ≤ maxLen → (∀ y ∈ l0, Ok56 y) → ∃ k, laws_FnExactLogSize.f k l0 = some true
end Go.Proofs.Ythoioccmnphfgaa.OFnExactLogSize

namespace Go.Proofs.Ythoioccmnphfgaa.Pu
open Go.RowKit Go.Proofs.YthoioccmnphfgaaW.PrintWords Go.Proofs.YthoioccmnphfgaaW.PrintLast Go.Proofs.Ythoioccmnphfgaa.G
set_option linter.unusedVariables false
set_option linter.unusedSimpArgs false
def cvR (r : S99) : S63 := ⟨r.f0, r.f1, r.f2, r.f3, r.f4, r.f5⟩
theorem rdLR_nat (l : List S99) (i : Nat) (h : i < l.length) : rd_T99 l (i : Int) = l[i] := by
  unfold rd_T99
  simp [h]
theorem szIntS_some (l : List Int) (a : Int) (hl : l.length ≤ 9223372036854775807) (h0 : 0 ≤ a) (h1 : a ≤ 1048576) :
    laws_szIntS.f l a = some (if a - (l.length : Int) < 0 then -1 else a - (l.length : Int)) := by
  unfold laws_szIntS.f
  rw [w64 (a := a - (l.length : Int)) (by omega) (by omega)]
  split <;> rfl
/-- What a row of sizes tells: it is too much, or something is left and all is small. -/
def SzR (r : S99) : Prop := r.f3.length ≤ 1048576 ∧ r.f5.length ≤ 1048576
theorem szRecord_some (r : S99) (a : Int) (hl : r.f3.length ≤ 9223372036854775807 ∧ r.f5.length ≤ 9223372036854775807) (h0 : 0 ≤ a) (h1 : a ≤ 1048576) :
    ∃ t, laws_szRecord.f r.f0 r.f1 r.f2 r.f3 r.f4 r.f5 a = some t ∧ (t < 0 ∨ (0 ≤ t ∧ t ≤ a ∧ SzR r)) := by
  unfold laws_szRecord.f
  rw [szIntS_some _ _ hl.1 h0 h1, bindS]
  by_cases h : a - (r.f3.length : Int) < 0
  · rw [if_pos h, if_pos (by omega)]
    exact ⟨_, rfl, .inl (by omega)⟩
  · rw [if_neg h, if_neg h, szIntS_some _ _ hl.2 (by omega) (by omega), bindS]
    by_cases h2 : a - (r.f3.length : Int) - (r.f5.length : Int) < 0
    · rw [if_pos h2, if_pos (by omega)]
      exact ⟨_, rfl, .inl (by omega)⟩
    · rw [if_neg h2, if_neg h2]
      exact ⟨_, rfl, .inr ⟨by omega, by omega, by omega, by omega⟩⟩
theorem szRecordS_loop (l : List S99) (hl : l.length ≤ 9223372036854775807) (hs : ∀ r ∈ l, r.f3.length ≤ 9223372036854775807 ∧ r.f5.length ≤ 9223372036854775807) : ∀ d i (a : Int), l.length - i = d → 0 ≤ a → a ≤ 1048576 →
    EndsIn (fun k => laws_szRecordS.l0 k l a (i : Int)) (fun t => t < 0 ∨ (0 ≤ t ∧ t ≤ a ∧ ∀ r ∈ l.drop i, SzR r)) := by
  intro d
  induction d with
  | zero =>
    intro i a hi h0 h1
    refine EndsIn.step (fun k => by rw [laws_szRecordS.l0]) ?_
    simp only [if_neg (show ¬ ((i : Int) < (l.length : Int)) by omega)]
    refine EndsIn.now _ (.inr ⟨h0, by omega, ?_⟩)
    rw [List.drop_of_length_le (by omega)]
    simp
  | succ d ih =>
    intro i a hi h0 h1
    have hlt : i < l.length := by omega
    refine EndsIn.step (fun k => by rw [laws_szRecordS.l0]) ?_
    obtain ⟨t, ht, hc⟩ := szRecord_some l[i] a (hs _ (List.getElem_mem hlt)) h0 h1
    simp only [if_pos (show ((i : Int) < (l.length : Int)) by omega), if_pos (show (0 : Int) ≤ (i : Int) by omega), rdLR_nat l i hlt, ht, bindS, w64 (a := (i : Int) + 1) (by omega) (by omega)]
    rcases hc with h | ⟨h2, h3, h4⟩
    · simp only [if_pos h]
      exact EndsIn.now _ (.inl (by omega))
    · simp only [if_neg (show ¬ t < 0 by omega)]
      refine (ih (i + 1) t (by omega) h2 (by omega)).mono fun q hq => ?_
      rcases hq with hq | ⟨q0, q1, q2⟩
      · exact .inl hq
      · refine .inr ⟨q0, by omega, ?_⟩
        rw [List.drop_eq_getElem_cons hlt]
        intro g hg
        rcases List.mem_cons.1 hg with rfl | hg
        · exact h4
        · exact q2 g hg
theorem szRecordS_ends (l : List S99) (hl : l.length ≤ 9223372036854775807) (hs : ∀ r ∈ l, r.f3.length ≤ 9223372036854775807 ∧ r.f5.length ≤ 9223372036854775807) (a : Int) (h0 : 0 ≤ a) (h1 : a ≤ 1048576) :
    EndsIn (fun k => laws_szRecordS.f k l a) (fun t => t < 0 ∨ (0 ≤ t ∧ t ≤ a ∧ l.length ≤ 1048576 ∧ ∀ r ∈ l, SzR r)) := by
  unfold laws_szRecordS.f
  rw [w64 (a := a - (l.length : Int)) (by omega) (by omega)]
  by_cases h : a - (l.length : Int) < 0
  · simp only [if_pos h]
    exact EndsIn.now _ (.inl (by omega))
  · simp only [if_neg h]
    refine (szRecordS_loop l hl hs l.length 0 _ (by omega) (by omega) (by omega)).mono fun r hr => ?_
    rcases hr with hr | ⟨q0, q1, q2⟩
    · exact .inl hr
    · exact .inr ⟨q0, by omega, by omega, by simpa using q2⟩
theorem toIntS_loop (l : List Int) (hl : l.length ≤ 1048576) : ∀ d i, l.length - i = d → i ≤ l.length →
    Ev (fun k => laws_toIntS.l0 k l ((l.take i).map (fun x => x) ++ List.replicate (l.length - i) 0) (i : Int)) l := by
  intro d
  induction d with
  | zero =>
    intro i hi hle
    obtain rfl : i = l.length := by omega
    refine Ev.step (fun k => by rw [laws_toIntS.l0]) ?_
    simp only [if_neg (show ¬ ((l.length : Int) < (l.length : Int)) by omega), List.take_length, Nat.sub_self, List.replicate_zero, List.append_nil, List.map_id']
    exact Ev.now _
  | succ d ih =>
    intro i hi hle
    have hlt : i < l.length := by omega
    refine Ev.step (fun k => by rw [laws_toIntS.l0]) ?_
    simp only [if_pos (show ((i : Int) < (l.length : Int)) by omega), if_pos (show (0 : Int) ≤ (i : Int) by omega), rdi_nat l i hlt, fill_len (fun x : Int => x) 0 l i hle, w64 (a := (i : Int) + 1) (by omega) (by omega), Int.toNat_natCast]
    have := ih (i + 1) (by omega) (by omega)
    rw [← fill_set (fun x : Int => x) 0 l i hlt] at this
    exact this
theorem toIntS_ev (l : List Int) (hl : l.length ≤ 1048576) : Ev (fun k => laws_toIntS.f k l) l := by
  unfold laws_toIntS.f
  simp only [if_pos (show (0 : Int) ≤ (l.length : Int) by omega), Int.toNat_natCast, if_pos (show l.length ≤ 35184372088832 by omega)]
  have := toIntS_loop l hl l.length 0 (by omega) (by omega)
  simpa using this
theorem toRecord_ev (r : S99) (h : SzR r) : Ev (fun k => laws_toRecord.f k r.f0 r.f1 r.f2 r.f3 r.f4 r.f5) (r.f0, r.f1, r.f2, r.f3, r.f4, r.f5) := by
  unfold laws_toRecord.f
  exact Ev.bind (toIntS_ev _ h.1) (Ev.bind (toIntS_ev _ h.2) (Ev.now _))
theorem toRecordS_loop (l : List S99) (hl : l.length ≤ 1048576) (hs : ∀ r ∈ l, SzR r) : ∀ d i, l.length - i = d → i ≤ l.length →
    Ev (fun k => laws_toRecordS.l0 k l ((l.take i).map cvR ++ List.replicate (l.length - i) z63) (i : Int)) (l.map cvR) := by
  intro d
  induction d with
  | zero =>
    intro i hi hle
    obtain rfl : i = l.length := by omega
    refine Ev.step (fun k => by rw [laws_toRecordS.l0]) ?_
    simp only [if_neg (show ¬ ((l.length : Int) < (l.length : Int)) by omega), List.take_length, Nat.sub_self, List.replicate_zero, List.append_nil]
    exact Ev.now _
  | succ d ih =>
    intro i hi hle
    have hlt : i < l.length := by omega
    refine Ev.step (fun k => by rw [laws_toRecordS.l0]) ?_
    simp only [if_pos (show ((i : Int) < (l.length : Int)) by omega), if_pos (show (0 : Int) ≤ (i : Int) by omega), rdLR_nat l i hlt, fill_len cvR z63 l i hle, w64 (a := (i : Int) + 1) (by omega) (by omega), Int.toNat_natCast]
    refine Ev.bind (toRecord_ev l[i] (hs _ (List.getElem_mem _))) ?_
    have := ih (i + 1) (by omega) (by omega)
    rw [← fill_set cvR z63 l i hlt] at this
    exact this
theorem toRecordS_ev (l : List S99) (hl : l.length ≤ 1048576) (hs : ∀ r ∈ l, SzR r) : Ev (fun k => laws_toRecordS.f k l) (l.map cvR) := by
  unfold laws_toRecordS.f
  simp only [if_pos (show (0 : Int) ≤ (l.length : Int) by omega), Int.toNat_natCast, if_pos (show l.length ≤ 3518437208883 by omega)]
  have := toRecordS_loop l hl hs l.length 0 (by omega) (by omega)
  simpa using this
theorem all_true {α} (l : List α) : l.all (fun _ => true) = true := List.all_eq_true.2 (fun _ _ => rfl)
theorem eqIntS_ev (l : List Int) (hl : l.length ≤ 9223372036854775807) : Ev (fun k => laws_eqIntS.f k l l) true := by
  unfold laws_eqIntS.f
  simp only [if_true]
  have := ev_all l hl (fun k i => laws_eqIntS.l0 k l l i) (fun k i => some true) (fun _ => true) true
    (fun k => by simp only [laws_eqIntS.l0]; rw [if_neg (by omega)])
    (fun k i h => by simp only [laws_eqIntS.l0]; rw [if_pos (by omega), if_pos (by omega), if_pos (by omega), if_true]; rfl)
    (fun i h => Ev.now _) l.length 0 (by omega) (by omega)
  rw [all_true] at this
  simpa using this
theorem eqRecord_ev (r : S63) (h : Lens r) : Ev (fun k => laws_eqRecord.f k r.f0 r.f1 r.f2 r.f3 r.f4 r.f5 r.f0 r.f1 r.f2 r.f3 r.f4 r.f5) true := by
  unfold laws_eqRecord.f
  simp only [if_true, bne_self_eq_false, Bool.false_eq_true, if_false]
  refine Ev.bind (eqIntS_ev _ h.1) ?_
  simp only [if_true]
  exact Ev.bind (eqIntS_ev _ h.2) (Ev.now _)
theorem eqRecordS_ev (l : List S63) (hl : l.length ≤ 9223372036854775807) (hs : ∀ r ∈ l, Lens r) : Ev (fun k => laws_eqRecordS.f k l l) true := by
  unfold laws_eqRecordS.f
  simp only [if_true]
  have := ev_all l hl (fun k i => laws_eqRecordS.l0 k l l i) (fun k i => laws_eqRecord.f k (rd_T63 l i).f0 (rd_T63 l i).f1 (rd_T63 l i).f2 (rd_T63 l i).f3 (rd_T63 l i).f4 (rd_T63 l i).f5 (rd_T63 l i).f0 (rd_T63 l i).f1 (rd_T63 l i).f2 (rd_T63 l i).f3 (rd_T63 l i).f4 (rd_T63 l i).f5) (fun _ => true) true
    (fun k => by simp only [laws_eqRecordS.l0]; rw [if_neg (by omega)])
    (fun k i h => by simp only [laws_eqRecordS.l0]; rw [if_pos (by omega), if_pos (by omega), if_pos (by omega)])
    (fun i h => by rw [rdR_nat l i h]; exact eqRecord_ev _ (hs _ (List.getElem_mem _))) l.length 0 (by omega) (by omega)
  rw [all_true] at this
  simpa using this
theorem lens_cv {l : List S99} (hs : ∀ r ∈ l, SzR r) : ∀ r ∈ l.map cvR, Lens r := by
  intro r hr
  obtain ⟨x, hx, rfl⟩ := List.mem_map.1 hr
  have := hs x hx
  exact ⟨by have := this.1; show x.f3.length ≤ _; omega, by have := this.2; show x.f5.length ≤ _; omega⟩
end Go.Proofs.Ythoioccmnphfgaa.Pu

namespace Go.Proofs.Ythoioccmnphfgaa.Pu
open Go.RowKit Go.Proofs.YthoioccmnphfgaaW.PrintWords Go.Proofs.YthoioccmnphfgaaW.PrintLast Go.Proofs.YthoioccmnphfgaaW.PrintMore Go.Proofs.Ythoioccmnphfgaa.G
theorem LogValid_ev (l : List S46) (_ : RowB l) : Ev (fun k => impl_LogValid.f k l) (logOk l) := Ev.now _
theorem sLogValid_ev (l : List S46) (_ : RowB l) : Ev (fun k => spec_LogValid.f k l) (logOk l) := Ev.now _
end Go.Proofs.Ythoioccmnphfgaa.Pu

namespace Go.Proofs.Ythoioccmnphfgaa.Pu
open Go.RowKit Go.Proofs.YthoioccmnphfgaaW.PrintWords Go.Proofs.YthoioccmnphfgaaW.PrintLast Go.Proofs.Ythoioccmnphfgaa.G
set_option linter.unusedVariables false
set_option linter.unusedSimpArgs false
def cvB (b : S56) : S46 := ⟨b.f0, b.f1, b.f2, b.f3, b.f4, b.f5.map cvR⟩
theorem rdLB_nat (l : List S56) (i : Nat) (h : i < l.length) : rd_T56 l (i : Int) = l[i] := by
  unfold rd_T56
  simp [h]
def SzB (b : S56) : Prop := b.f5.length ≤ 1048576 ∧ ∀ r ∈ b.f5, SzR r
/-- Parts whose lengths can be told. -/
def LenB (b : S56) : Prop := b.f5.length ≤ 9223372036854775807 ∧ ∀ r ∈ b.f5, r.f3.length ≤ 9223372036854775807 ∧ r.f5.length ≤ 9223372036854775807
theorem szBatch_ends (b : S56) (hs : LenB b) (a : Int) (h0 : 0 ≤ a) (h1 : a ≤ 1048576) :
    EndsIn (fun k => laws_szBatch.f k b.f0 b.f1 b.f2 b.f3 b.f4 b.f5 a) (fun t => t < 0 ∨ (0 ≤ t ∧ t ≤ a ∧ SzB b)) := by
  unfold laws_szBatch.f
  refine EndsIn.bind (szRecordS_ends b.f5 hs.1 hs.2 a h0 h1) fun t ht => ?_
  by_cases h : t < 0
  · simp only [if_pos h]
    exact EndsIn.now _ (.inl (by omega))
  · simp only [if_neg h]
    obtain ⟨t0, t1, n, z⟩ := ht.resolve_left h
    exact EndsIn.now _ (.inr ⟨t0, t1, n, z⟩)
theorem szBatchS_loop (l : List S56) (hl : l.length ≤ 9223372036854775807) (hs : ∀ b ∈ l, LenB b) : ∀ d i (a : Int), l.length - i = d → 0 ≤ a → a ≤ 1048576 →
    EndsIn (fun k => laws_szBatchS.l0 k l a (i : Int)) (fun t => t < 0 ∨ (0 ≤ t ∧ t ≤ a ∧ ∀ r ∈ l.drop i, SzB r)) := by
  intro d
  induction d with
  | zero =>
    intro i a hi h0 h1
    refine EndsIn.step (fun k => by rw [laws_szBatchS.l0]) ?_
    simp only [if_neg (show ¬ ((i : Int) < (l.length : Int)) by omega)]
    refine EndsIn.now _ (.inr ⟨h0, by omega, ?_⟩)
    rw [List.drop_of_length_le (by omega)]
    simp
  | succ d ih =>
    intro i a hi h0 h1
    have hlt : i < l.length := by omega
    refine EndsIn.step (fun k => by rw [laws_szBatchS.l0]) ?_
    simp only [if_pos (show ((i : Int) < (l.length : Int)) by omega), if_pos (show (0 : Int) ≤ (i : Int) by omega), rdLB_nat l i hlt, w64 (a := (i : Int) + 1) (by omega) (by omega)]
    refine EndsIn.bind (szBatch_ends l[i] (hs _ (List.getElem_mem hlt)) a h0 h1) fun t hc => ?_
    by_cases h : t < 0
    · simp only [if_pos h]
      exact EndsIn.now _ (.inl (by omega))
    · obtain ⟨h2, h3, h4⟩ := hc.resolve_left h
      simp only [if_neg h]
      refine (ih (i + 1) t (by omega) h2 (by omega)).mono fun q hq => ?_
      rcases hq with hq | ⟨q0, q1, q2⟩
      · exact .inl hq
      · refine .inr ⟨q0, by omega, ?_⟩
        rw [List.drop_eq_getElem_cons hlt]
        intro g hg
        rcases List.mem_cons.1 hg with rfl | hg
        · exact h4
        · exact q2 g hg
theorem szBatchS_ends (l : List S56) (hl : l.length ≤ 9223372036854775807) (hs : ∀ b ∈ l, LenB b) (a : Int) (h0 : 0 ≤ a) (h1 : a ≤ 1048576) :
    EndsIn (fun k => laws_szBatchS.f k l a) (fun t => t < 0 ∨ (0 ≤ t ∧ t ≤ a ∧ l.length ≤ 1048576 ∧ ∀ r ∈ l, SzB r)) := by
  unfold laws_szBatchS.f
  rw [w64 (a := a - (l.length : Int)) (by omega) (by omega)]
  by_cases h : a - (l.length : Int) < 0
  · simp only [if_pos h]
    exact EndsIn.now _ (.inl (by omega))
  · simp only [if_neg h]
    refine (szBatchS_loop l hl hs l.length 0 _ (by omega) (by omega) (by omega)).mono fun r hr => ?_
    rcases hr with hr | ⟨q0, q1, q2⟩
    · exact .inl hr
    · exact .inr ⟨q0, by omega, by omega, by simpa using q2⟩
theorem toBatch_ev (b : S56) (h : SzB b) : Ev (fun k => laws_toBatch.f k b.f0 b.f1 b.f2 b.f3 b.f4 b.f5) (b.f0, b.f1, b.f2, b.f3, b.f4, b.f5.map cvR) := by
  unfold laws_toBatch.f
  exact Ev.bind (toRecordS_ev _ h.1 h.2) (Ev.now _)
theorem toBatchS_loop (l : List S56) (hl : l.length ≤ 1048576) (hs : ∀ r ∈ l, SzB r) : ∀ d i, l.length - i = d → i ≤ l.length →
    Ev (fun k => laws_toBatchS.l0 k l ((l.take i).map cvB ++ List.replicate (l.length - i) z46) (i : Int)) (l.map cvB) := by
  intro d
  induction d with
  | zero =>
    intro i hi hle
    obtain rfl : i = l.length := by omega
    refine Ev.step (fun k => by rw [laws_toBatchS.l0]) ?_
    simp only [if_neg (show ¬ ((l.length : Int) < (l.length : Int)) by omega), List.take_length, Nat.sub_self, List.replicate_zero, List.append_nil]
    exact Ev.now _
  | succ d ih =>
    intro i hi hle
    have hlt : i < l.length := by omega
    refine Ev.step (fun k => by rw [laws_toBatchS.l0]) ?_
    simp only [if_pos (show ((i : Int) < (l.length : Int)) by omega), if_pos (show (0 : Int) ≤ (i : Int) by omega), rdLB_nat l i hlt, fill_len cvB z46 l i hle, w64 (a := (i : Int) + 1) (by omega) (by omega), Int.toNat_natCast]
    refine Ev.bind (toBatch_ev l[i] (hs _ (List.getElem_mem _))) ?_
    have := ih (i + 1) (by omega) (by omega)
    rw [← fill_set cvB z46 l i hlt] at this
    exact this
theorem toBatchS_ev (l : List S56) (hl : l.length ≤ 1048576) (hs : ∀ r ∈ l, SzB r) : Ev (fun k => laws_toBatchS.f k l) (l.map cvB) := by
  unfold laws_toBatchS.f
  simp only [if_pos (show (0 : Int) ≤ (l.length : Int) by omega), Int.toNat_natCast, if_pos (show l.length ≤ 5026338869833 by omega)]
  have := toBatchS_loop l hl hs l.length 0 (by omega) (by omega)
  simpa using this
theorem eqBatch_ev (b : S46) (h : RowR b.f5) : Ev (fun k => laws_eqBatch.f k b.f0 b.f1 b.f2 b.f3 b.f4 b.f5 b.f0 b.f1 b.f2 b.f3 b.f4 b.f5) true := by
  unfold laws_eqBatch.f
  simp only [if_true, bne_self_eq_false, Bool.false_eq_true, if_false]
  refine Ev.bind (eqRecordS_ev _ h.1 h.2) ?_
  simp only [if_true]
  exact Ev.now _
theorem eqBatchS_ev (l : List S46) (hb : RowB l) : Ev (fun k => laws_eqBatchS.f k l l) true := by
  have hl := hb.1
  unfold laws_eqBatchS.f
  simp only [if_true]
  have := ev_all l hl (fun k i => laws_eqBatchS.l0 k l l i) (fun k i => laws_eqBatch.f k (rd_T46 l i).f0 (rd_T46 l i).f1 (rd_T46 l i).f2 (rd_T46 l i).f3 (rd_T46 l i).f4 (rd_T46 l i).f5 (rd_T46 l i).f0 (rd_T46 l i).f1 (rd_T46 l i).f2 (rd_T46 l i).f3 (rd_T46 l i).f4 (rd_T46 l i).f5) (fun _ => true) true
    (fun k => by simp only [laws_eqBatchS.l0]; rw [if_neg (by omega)])
    (fun k i h => by simp only [laws_eqBatchS.l0]; rw [if_pos (by omega), if_pos (by omega), if_pos (by omega)])
    (fun i h => by rw [rdB_nat l i h]; exact eqBatch_ev _ (hb.2 _ (List.getElem_mem _))) l.length 0 (by omega) (by omega)
  rw [all_true] at this
  simpa using this
theorem rowB_cv {l : List S56} (hl : l.length ≤ 1048576) (hs : ∀ b ∈ l, SzB b) : RowB (l.map cvB) := by
  refine ⟨by rw [List.length_map]; omega, fun b hb => ?_⟩
  obtain ⟨x, hx, rfl⟩ := List.mem_map.1 hb
  have h := hs x hx
  exact ⟨by show (x.f5.map cvR).length ≤ _; rw [List.length_map]; have := h.1; omega, lens_cv h.2⟩
end Go.Proofs.Ythoioccmnphfgaa.Pu

namespace Go.Proofs.Ythoioccmnphfgaa.Pu
open Go
theorem i64_mask (m : Nat) (hm : m ≤ 62) (n : Int) (h : (BitVec.ofInt 64 ((2 ^ m - 1 : Nat) : Int)).toNat = 2 ^ m - 1) : bits .and .i64 n ((2 ^ m - 1 : Nat) : Int) = n % (2 ^ m : Nat) := by
  have key : (BitVec.ofInt 64 n &&& BitVec.ofInt 64 ((2 ^ m - 1 : Nat) : Int)).toNat = (n % ((2 ^ 64 : Nat) : Int)).toNat % 2 ^ m := by
    rw [BitVec.toNat_and, BitVec.toNat_ofInt, h, Nat.and_two_pow_sub_one_eq_mod]
  show IntKind.i64.wrap ((BitVec.ofInt 64 n &&& BitVec.ofInt 64 ((2 ^ m - 1 : Nat) : Int)).toNat : Nat) = n % (2 ^ m : Nat)
  have hp : 2 ^ m ≤ 2 ^ 62 := Nat.pow_le_pow_right (by decide) hm
  have hp0 : 0 < 2 ^ m := Nat.pow_pos (by decide)
  have hd : 2 ^ m ∣ 2 ^ 64 := Nat.pow_dvd_pow 2 (by omega)
  have hlt := Nat.mod_lt (n % ((2 ^ 64 : Nat) : Int)).toNat hp0
  rw [key, IntKind.wrap_i64]
  have e1 : (((n % ((2 ^ 64 : Nat) : Int)).toNat % 2 ^ m : Nat) : Int) = n % ((2 ^ m : Nat) : Int) := by
    rw [Int.natCast_emod, Int.toNat_of_nonneg (Int.emod_nonneg _ (by decide))]
    exact Int.emod_emod_of_dvd n (Int.natCast_dvd_natCast.2 hd)
  rw [e1]
  have g1 := Int.emod_nonneg n (b := ((2 ^ m : Nat) : Int)) (by omega)
  have g2 := Int.emod_lt_of_pos n (b := ((2 ^ m : Nat) : Int)) (by omega)
  omega
theorem i64_and127 (n : Int) : bits .and .i64 n 127 = n % 128 := i64_mask 7 (by decide) n (by decide)
end Go.Proofs.Ythoioccmnphfgaa.Pu

