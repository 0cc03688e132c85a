/- A text of seat YtfjkpdhldeopaaaDoor: what the law FnExactLogCut needs of this repo's texts (by pack.py). Not trusted: Lean checks it. -/
import Derived.Test.YtfjkpdhldeopaaaDoorKFnExactLogCut8
namespace Go.Proofs.YtfjkpdhldeopaaaDoor.G
open Go.RowKit Go.Proofs.YtfjkpdhldeopaaaDoorW.PrintWords Go.Proofs.YtfjkpdhldeopaaaDoorW.PrintLast Go.Proofs.YtfjkpdhldeopaaaDoorW.PrintMore
attribute [local go_sem] max2_int min2_int max_two min_two max_three min_three max_four min_four   -- for this text's walks alone
set_option linter.unusedVariables false
set_option linter.unusedSimpArgs false

def laws_toIntS.l0 : Nat → List Int → List Int → Int → Option (List Int)
 | 0, _, _, _ => none
 | k + 1, x0, x3, x4 => if x4 < (x0.length : Int) then (if 0 ≤ x4 then (if x4 < (x3.length : Int) then (laws_toIntS.l0 k x0 (x3.set (x4 : Int).toNat (rd x0 x4)) (wrap64 (x4 + 1))) else (none)) else (none)) else (some x3)
def laws_toIntS.f (k : Nat) (l0 : List Int) : Option (List Int) := if 0 ≤ (l0.length : Int) then (if ((l0.length : Int) : Int).toNat ≤ 35184372088832 then (laws_toIntS.l0 k l0 (List.replicate ((l0.length : Int) : Int).toNat 0) 0) else (none)) else (none)
set_option maxHeartbeats 8000000 in
set_option maxRecDepth 100000 in
theorem laws_toIntS.calls (k : Nat) (A0 : Option Addr) (c0 : Nat) (l0 : List Int) (r : List Int) (w : World) (hr0 : Kd.C (Kd.int .i64) w A0 l0.length l0) (hc0 : l0.length ≤ c0) (h : laws_toIntS.f k l0 = some r) :
  Calls Tryd.prog 57 #[.slice A0 l0.length c0] w fun e w' => ∃ v0_ : Value, e = .returned (v0_) ∧ Kd.R (Kd.int .i64) 3 w' w.heap.size (fun _ => True) v0_ r ∧ Below w.heap.size w w' := by
 have HR0 := Aside0.mk hr0
 have HC0 := Aside0.mk hc0
 clear hr0 hc0
 have HB := Aside0.mk (Below.refl w.heap.size w)
 have H : (if 0 ≤ (l0.length : Int) then (if ((l0.length : Int) : Int).toNat ≤ 35184372088832 then (laws_toIntS.l0 k l0 (List.replicate ((l0.length : Int) : Int).toNat 0) 0) else (none)) else (none)) = some r := h
 clear h
 by_cases c2 : 0 ≤ (l0.length : Int)
 ·rw [if_pos c2] at H
  have c2b0 := eq_true c2
  have c2b1 : decide (0 ≤ (l0.length : Int)) = true := decide_eq_true c2
  clear c2
  by_cases c3 : ((l0.length : Int) : Int).toNat ≤ 35184372088832
  ·rw [if_pos c3] at H
   have c3b0 := eq_true c3
   have c3b1 : decide (((l0.length : Int) : Int).toNat ≤ 35184372088832) = true := decide_eq_true c3
   clear c3
   obtain ⟨y174, hy174⟩ : ∃ y_ : List Int, y_ = (List.replicate ((l0.length : Int) : Int).toNat 0) := ⟨_, rfl⟩
   replace H : (laws_toIntS.l0 k l0 y174 0) = some r := by first | (rw [hy174]; with_reducible exact H) | (have H2_ := (Option.bind_some _ _).symm.trans H; rw [hy174]; with_reducible exact H2_) | (have H2_ := (Option.bind_some _ _).symm.trans H; with_reducible exact H2_) | with_reducible exact H | (rw [hy174]; exact H) | exact H
   have Ny174 := Aside0.mk hy174
   clear hy174
   have H' := Aside0.mk H
   clear H
   go_enter Tryd.func57, Tryd.ntmps57
   go_wp2_with (first | ((with_reducible refine gate_dst (N := 7) rfl ?_); refine Kd.R_make (Kd.int .i64) _ 3 rfl (N := 7) rfl 60 _ _ rfl (l0.length : Int) rfl rfl Tryd.underlying60 (.int .i64 0) 8 info3 rfl (by decide) (by omega) 0 (ok := fun _ => True) (okp := fun _ => True) rfl (fun _ hk => hk) trivial (td) (Nat.le_trans (Nat.mul_le_mul_right _ (td : (l0.length : Int).toNat ≤ 35184372088832)) (by omega)) (Below.refl _ _) (Nat.le_refl _) ?_; intro v175 w4 ho5 hb hg_ hnew_; clear hg_ hnew_; (first | rw [← Ny174.out] at ho5 | (simp only [Int.reduceToNat] at ho5; rw [← Ny174.out] at ho5)); have HO176 := tRl ho5 HB; replace HB := tBs HB hb; clear hb ho5))
   go_loopg [4] k (fun kq v4 w' => ∃ (x3_1 : List Int) (x4_1 : Int), v4 = .int .i64 x4_1 ∧ Aside0 (laws_toIntS.l0 kq l0 x3_1 x4_1 = some r) ∧ Aside0 (kq ≤ k) ∧ Aside0 (Kd.R (Kd.int .i64) 3 w' w.heap.size (fun _ => True) v175 x3_1) ∧ Aside0 (Below w.heap.size w w'))
   case atStart => exact ⟨(y174), (0), tr, H', ⟨Nat.le_refl _⟩, ⟨tR HO176.out⟩, ⟨zb⟩⟩
   case round =>
    clear H'
    try clear c2; try clear c2b0; try clear c2b1; try clear c3; try clear c3b0; try clear c3b1
    obtain ⟨x3_1, x4_1, rfl, HA, HK1, HO_3, HB⟩ := hrel
    cases gk with
    | zero => exact absurd HA.out (by simp [laws_toIntS.l0])
    | succ k1 =>
     have H := HA.out
     clear HA
     simp only [laws_toIntS.l0] at H
     by_cases c6 : x4_1 < (l0.length : Int)
     ·rw [if_pos c6] at H
      have c6b0 : decide (x4_1 < (l0.length : Int)) = true := decide_eq_true c6
      clear c6
      by_cases c7 : 0 ≤ x4_1
      ·rw [if_pos c7] at H
       have c7b0 : decide (0 ≤ x4_1) = true := decide_eq_true c7
       clear c7
       by_cases c8 : x4_1 < (x3_1.length : Int)
       ·rw [if_pos c8] at H
        have c8b0 : decide (x4_1 < (x3_1.length : Int)) = true := decide_eq_true c8
        clear c8
        obtain ⟨y178, hy178⟩ : ∃ y_ : List Int, y_ = (x3_1.set (x4_1 : Int).toNat (rd l0 x4_1)) := ⟨_, rfl⟩
        replace H : (laws_toIntS.l0 k1 l0 y178 (wrap64 (x4_1 + 1))) = some r := by first | (rw [hy178]; with_reducible exact H) | (have H2_ := (Option.bind_some _ _).symm.trans H; rw [hy178]; with_reducible exact H2_) | (have H2_ := (Option.bind_some _ _).symm.trans H; with_reducible exact H2_) | with_reducible exact H | (rw [hy178]; exact H) | exact H
        have Ny178 := Aside0.mk hy178
        clear hy178
        have H' := Aside0.mk H
        clear H
        have p177 : 0 ≤ (x4_1 : Int) := td
        have q177 : x4_1 < (l0.length : Int) := td
        obtain ⟨ad177, e177, hx177_0⟩ := Kd.at_int HR0.out x4_1 p177 q177
        cases e177
        replace hx177_0 := tcl HB hx177_0
        replace p177 := eq_true p177
        replace q177 := eq_true q177
        have p9 : 0 ≤ (x4_1 : Int) := td
        have q9 : (x4_1 : Int) < ((x3_1.length : Int) : Int) := td
        obtain ⟨go9, co9, eo9, gb9, gl9, cl9, HG9⟩ := Kd.R_form HO_3.out (by omega)
        (first | cases eo9 | (injection eo9 with ea_ en_ ec_; (first | subst ea_ | (injection ea_ with ea_; subst ea_)); subst ec_; clear en_))
        have GB9 := Aside0.mk gb9
        have GG9 := Aside0.mk HG9
        clear gb9 gl9 HG9
        obtain ⟨hx9_0, hf9_0⟩ := Kd.R_celln 0 HO_3.out (x4_1 : Int) p9 q9
        replace p9 := eq_true p9
        replace q9 := eq_true q9
        have HP10 := Kd.R_putg HO_3.out (x4_1 : Int) (rd l0 x4_1)
        go_wp2_with (first | ((with_reducible refine gate_store (t := 3) (p := 20) rfl ?_); refine store_event (t := 3) (p := 20) (v := ?vo_w11) (w1 := (wr.setCell ⟨go9, (x4_1 : Int).toNat, none⟩ (.int .i64 (rd l0 x4_1)))) ?hg ?ho ?hn ?hr ?_; (case ho => rfl); (case hg => rfl); (case hn => rfl); (case hr => first | (go_simp; done) | (go_simp; rfl)); intro w11 hw; have hg : wr.grownBy w11 (some go9) := (by rw [hw]; exact HP10.2); have hp_ : Kd.R (Kd.int .i64) 3 w11 w.heap.size (fun _ => True) (.slice (some ⟨go9, 0, none⟩) x3_1.length co9) y178 := (by rw [hw, Ny178.out]; exact HP10.1); clear HP10; replace HO_3 := Aside0.mk (hp_); replace HB := Aside0.mk ((by rw [hw]; exact below_set (HB.out) GB9.out : Below w.heap.size w w11)); clear hg hw hp_))
        go_roundg k1
        case measure => have := HK1.out; omega
        case rel => exact ⟨(y178), (wrap64 (x4_1 + 1)), tr, H', ⟨by have := HK1.out; omega⟩, ⟨tR HO_3.out⟩, ⟨zb⟩⟩
       ·rw [if_neg c8] at H
        exact absurd H (by simp)
      ·rw [if_neg c7] at H
       exact absurd H (by simp)
     ·rw [if_neg c6] at H
      have c6b0 : decide (x4_1 < (l0.length : Int)) = false := decide_eq_false c6
      clear c6
      obtain rfl := Option.some.inj H
      go_wp2
      go_ret
      exact ⟨_, by first | rfl | (simp [errW_none, errW_some] <;> rfl) | (simp [*, errW_none, errW_some] <;> rfl), tR HO_3.out, zb⟩
  ·rw [if_neg c3] at H
   exact absurd H (by simp)
 ·rw [if_neg c2] at H
  exact absurd H (by simp)

def laws_toRecord.f (k : Nat) (a0_0 : Int) (a0_1 : Int) (a0_2 : Bool) (l0_3 : List Int) (a0_4 : Bool) (l0_5 : List Int) : Option (Int × Int × Bool × List Int × Bool × List Int) := (laws_toIntS.f k l0_3).bind fun t182 => ((laws_toIntS.f k l0_5).bind fun t185 => (some (a0_0, a0_1, a0_2, t182, a0_4, t185)))
set_option maxHeartbeats 8000000 in
set_option maxRecDepth 100000 in
theorem laws_toRecord.calls (k : Nat) (a0_0 : Int) (a0_1 : Int) (a0_2 : Bool) (A0_3 : Option Addr) (c0_3 : Nat) (l0_3 : List Int) (a0_4 : Bool) (A0_5 : Option Addr) (c0_5 : Nat) (l0_5 : List Int) (r1 : Int) (r2 : Int) (r3 : Bool) (r4 : List Int) (r5 : Bool) (r6 : List Int) (w : World) (hr0_3 : Kd.C (Kd.int .i64) w A0_3 l0_3.length l0_3) (hc0_3 : l0_3.length ≤ c0_3) (hr0_5 : Kd.C (Kd.int .i64) w A0_5 l0_5.length l0_5) (hc0_5 : l0_5.length ≤ c0_5) (h : laws_toRecord.f k a0_0 a0_1 a0_2 l0_3 a0_4 l0_5 = some (r1, r2, r3, r4, r5, r6)) :
  Calls Tryd.prog 46 #[.agg #[.int .i64 a0_0, .int .i64 a0_1, .bool a0_2, .slice A0_3 l0_3.length c0_3, .bool a0_4, .slice A0_5 l0_5.length c0_5]] w fun e w' => ∃ v3_ v5_ : Value, e = .returned (.agg #[.int .i64 r1, .int .i64 r2, .bool r3, v3_, .bool r5, v5_]) ∧ Kd.R (Kd.int .i64) 3 w' w.heap.size (fun k_ => some k_ ≠ (v5_ : Value).ownBlock) v3_ r4 ∧ Kd.R (Kd.int .i64) 3 w' w.heap.size (fun k_ => some k_ ≠ (v3_ : Value).ownBlock) v5_ r6 ∧ Below w.heap.size w w' := by
 have hu71 := Tryd.underlying71
 have hu62 := Tryd.underlying62
 have HR0_3 := Aside0.mk hr0_3
 have HC0_3 := Aside0.mk hc0_3
 clear hr0_3 hc0_3
 have HR0_5 := Aside0.mk hr0_5
 have HC0_5 := Aside0.mk hc0_5
 clear hr0_5 hc0_5
 have HB := Aside0.mk (Below.refl w.heap.size w)
 have H : ((laws_toIntS.f k l0_3).bind fun t182 => ((laws_toIntS.f k l0_5).bind fun t185 => (some (a0_0, a0_1, a0_2, t182, a0_4, t185)))) = some (r1, r2, r3, r4, r5, r6) := h
 clear h
 replace H := tbe H
 obtain ⟨t182, A2, H⟩ := H
 replace H := tbe H
 obtain ⟨t185, A3, H⟩ := H
 simp only [Option.some.injEq, Prod.mk.injEq] at H
 obtain ⟨rfl, rfl, rfl, rfl, rfl, rfl⟩ := H
 go_enter Tryd.func46, Tryd.ntmps46
 go_wp2_with (first | ((with_reducible refine gate_dst (N := 1) rfl ?_); refine box_event ?hg (N := 1) ?hd (cs := #[.int .i64 a0_0, .int .i64 a0_1, .bool a0_2, .slice A0_3 l0_3.length c0_3, .bool a0_4, .slice A0_5 l0_5.length c0_5]) (t := 71) ?hr ?_; (case hd => rfl); (case hg => rfl); (case hr => first | (go_simp; done) | (go_simp; rfl)); intro gb179 hg w4 hbox hb; have BK179 := Aside0.mk (hbox); have GW179 := tge HB hg; have GE179 := tge HB hg; replace HB := tBs HB hb; clear hb hbox hg) | ((with_reducible refine gate_dst (N := 2) rfl ?_); refine box_event ?hg (N := 2) ?hd (cs := #[.int .i64 0, .int .i64 0, .bool false, .slice none 0 0, .bool false, .slice none 0 0]) (t := 62) ?hr ?_; (case hd => rfl); (case hg => rfl); (case hr => first | (go_simp; done) | (go_simp; rfl)); intro gb180 hg w5 hbox hb; have BK180 := Aside0.mk (hbox); have GW180 := tge HB hg; have GE180 := tge HB hg; replace HB := tBs HB hb; have NB179_180 := tlt BK179 hg; have NB180_179 := tgt BK179 hg; replace BK179 := tBb BK179 hb; clear hb hbox hg) | ((with_reducible refine gate_dst (N := 3) rfl ?_); refine box_event ?hg (N := 3) ?hd (cs := #[.int .i64 0, .int .i64 0, .bool false, .slice none 0 0, .bool false, .slice none 0 0]) (t := 62) ?hr ?_; (case hd => rfl); (case hg => rfl); (case hr => first | (go_simp; done) | (go_simp; rfl)); intro gb181 hg w6 hbox hb; have BK181 := Aside0.mk (hbox); have GW181 := tge HB hg; have GE181 := tge HB hg; replace HB := tBs HB hb; have NB179_181 := tlt BK179 hg; have NB181_179 := tgt BK179 hg; replace BK179 := tBb BK179 hb; have NB180_181 := tlt BK180 hg; have NB181_180 := tgt BK180 hg; replace BK180 := tBb BK180 hb; clear hb hbox hg; have hnb7 := NB179_180.out; have hnc7 := NB180_179.out; have hnb8 := NB179_181.out; have hnc8 := NB181_179.out; obtain ⟨hcz9_0, hcz9_1, hcz9_2, hcz9_3, hcz9_4, hcz9_5, hfz9_0, hfz9_1, hfz9_2, hfz9_3, hfz9_4, hfz9_5⟩ := cells6 BK179.out; have hnb10 := NB181_180.out; have hnc10 := NB180_181.out; obtain ⟨hcz11_0, hcz11_1, hcz11_2, hcz11_3, hcz11_4, hcz11_5, hfz11_0, hfz11_1, hfz11_2, hfz11_3, hfz11_4, hfz11_5⟩ := cells6 BK181.out) | ((with_reducible refine gate_callee (f := 57) rfl ?_); refine goesL_ (some 15) rfl rfl Tryd.func57 (by kernel_rfl) rfl #[.slice A0_3 l0_3.length c0_3] rfl tq ?_; (with_reducible refine (laws_toIntS.calls k _ _ l0_3 t182 _ ?side1 ?side2 A2.out).mono ?_); (case side1 => exact Kd.C_below HR0_3.out zb); (case side2 => exact HC0_3.out); rintro e w12 ⟨v183, rfl, ho0, hb⟩; have u_v183 := tsv Tryd.prog v183 ho0; refine ⟨_, rfl, ?_⟩; have HO184 := tRl ho0 HB; replace BK179 := tBb BK179 hb; replace BK180 := tBb BK180 hb; replace BK181 := tBp (o' := .cells #[.int .i64 a0_0, .int .i64 a0_1, .bool a0_2, .slice none 0 0, .bool false, .slice none 0 0] 62 (0, 0)) BK181 hb; replace HB := tBs HB hb; (try clear hb); (try clear hb2); (try clear hk); (try clear hi); (try clear ho0); obtain ⟨Ao13, co13, eo13⟩ := Kd.R_slice HO184.out; subst eo13; obtain ⟨hcz14_0, hcz14_1, hcz14_2, hcz14_3, hcz14_4, hcz14_5, hfz14_0, hfz14_1, hfz14_2, hfz14_3, hfz14_4, hfz14_5⟩ := cells6 BK181.out; obtain ⟨hcz15_0, hcz15_1, hcz15_2, hcz15_3, hcz15_4, hcz15_5, hfz15_0, hfz15_1, hfz15_2, hfz15_3, hfz15_4, hfz15_5⟩ := cells6 BK179.out) | ((with_reducible refine gate_callee (f := 57) rfl ?_); refine goesL_ (some 22) rfl rfl Tryd.func57 (by kernel_rfl) rfl #[.slice A0_5 l0_5.length c0_5] rfl tq ?_; (with_reducible refine (laws_toIntS.calls k _ _ l0_5 t185 _ ?side1 ?side2 A3.out).mono ?_); (case side1 => exact Kd.C_below HR0_5.out zb); (case side2 => exact HC0_5.out); rintro e w16 ⟨v186, rfl, ho0, hb⟩; have u_v186 := tsv Tryd.prog v186 ho0; refine ⟨_, rfl, ?_⟩; have HO187 := Aside0.mk (Kd.R_lower (Kd.R_new' ho0 (Kd.R_lt (tRt HO184.out BK181.out))) (below_size zb)); replace HO184 := Aside0.mk (Kd.R_elder' (tRt HO184.out BK181.out) (Kd.R_base ho0) hb); replace BK179 := tBb BK179 hb; replace BK180 := tBb BK180 hb; replace BK181 := tBp (o' := .cells #[.int .i64 a0_0, .int .i64 a0_1, .bool a0_2, .slice Ao13 t182.length co13, .bool a0_4, .slice none 0 0] 62 (0, 0)) BK181 hb; replace HB := tBs HB hb; (try clear hb); (try clear hb2); (try clear hk); (try clear hi); (try clear ho0); obtain ⟨Ao17, co17, eo17⟩ := Kd.R_slice HO187.out; subst eo17; obtain ⟨hcz18_0, hcz18_1, hcz18_2, hcz18_3, hcz18_4, hcz18_5, hfz18_0, hfz18_1, hfz18_2, hfz18_3, hfz18_4, hfz18_5⟩ := cells6 BK181.out; obtain ⟨hcz19_0, hcz19_1, hcz19_2, hcz19_3, hcz19_4, hcz19_5, hfz19_0, hfz19_1, hfz19_2, hfz19_3, hfz19_4, hfz19_5⟩ := cells6 BK180.out))
 refine bodyPost_ret (results_cell_row rfl _ _ gb180 62 #[.int .i64 a0_0, .int .i64 a0_1, .bool a0_2, .slice Ao13 t182.length co13, .bool a0_4, .slice Ao17 t185.length co17] (0, 0) _ rfl (tP BK180.out) Tryd.underlying62 rfl (by kernel_rfl)) rfl ?_
 exact ⟨_, _, by first | rfl | (simp [errW_none, errW_some] <;> rfl) | (simp [*, errW_none, errW_some] <;> rfl), tRm (Kd.R_types (Kd.R_types HO184.out BK181.out (by decide)) BK180.out (by decide)), tRm (Kd.R_types (Kd.R_types HO187.out BK181.out (by decide)) BK180.out (by decide)), zb⟩

def laws_toRecordS.l0 : Nat → List (S71) → List (S62) → Int → Option ((List (S62)))
 | 0, _, _, _ => none
 | k + 1, x0, x3, x4 => if x4 < (x0.length : Int) then (if 0 ≤ x4 then ((laws_toRecord.f k ((rd_T71 x0 x4).f0) ((rd_T71 x0 x4).f1) ((rd_T71 x0 x4).f2) ((rd_T71 x0 x4).f3) ((rd_T71 x0 x4).f4) ((rd_T71 x0 x4).f5)).bind fun bt192 => (if x4 < (x3.length : Int) then (laws_toRecordS.l0 k x0 (x3.set (x4 : Int).toNat (⟨bt192.1, bt192.2.1, bt192.2.2.1, bt192.2.2.2.1, bt192.2.2.2.2.1, bt192.2.2.2.2.2⟩ : S62)) (wrap64 (x4 + 1))) else (none))) else (none)) else (some x3)
def laws_toRecordS.f (k : Nat) (l0 : List (S71)) : Option ((List (S62))) := if 0 ≤ (l0.length : Int) then (if ((l0.length : Int) : Int).toNat ≤ 3518437208883 then (laws_toRecordS.l0 k l0 (List.replicate ((l0.length : Int) : Int).toNat z62) 0) else (none)) else (none)
set_option maxHeartbeats 8000000 in
set_option maxRecDepth 100000 in
theorem laws_toRecordS.calls (k : Nat) (A0 : Option Addr) (c0 : Nat) (l0 : List (S71)) (r : List (S62)) (w : World) (hr0 : Kd.C k71 w A0 l0.length l0) (hc0 : l0.length ≤ c0) (h : laws_toRecordS.f k l0 = some r) :
  Calls Tryd.prog 28 #[.slice A0 l0.length c0] w fun e w' => ∃ v0_ : Value, e = .returned (v0_) ∧ Kd.S k62 62 w' w.heap.size (fun _ => True) v0_ r ∧ Below w.heap.size w w' := by
 have hu71 := Tryd.underlying71
 have hu62 := Tryd.underlying62
 have HR0 := Aside0.mk hr0
 have HC0 := Aside0.mk hc0
 clear hr0 hc0
 have HB := Aside0.mk (Below.refl w.heap.size w)
 have H : (if 0 ≤ (l0.length : Int) then (if ((l0.length : Int) : Int).toNat ≤ 3518437208883 then (laws_toRecordS.l0 k l0 (List.replicate ((l0.length : Int) : Int).toNat z62) 0) else (none)) else (none)) = some r := h
 clear h
 by_cases c2 : 0 ≤ (l0.length : Int)
 ·rw [if_pos c2] at H
  have c2b0 := eq_true c2
  have c2b1 : decide (0 ≤ (l0.length : Int)) = true := decide_eq_true c2
  clear c2
  by_cases c3 : ((l0.length : Int) : Int).toNat ≤ 3518437208883
  ·rw [if_pos c3] at H
   have c3b0 := eq_true c3
   have c3b1 : decide (((l0.length : Int) : Int).toNat ≤ 3518437208883) = true := decide_eq_true c3
   clear c3
   obtain ⟨y188, hy188⟩ : ∃ y_ : List (S62), y_ = (List.replicate ((l0.length : Int) : Int).toNat z62) := ⟨_, rfl⟩
   replace H : (laws_toRecordS.l0 k l0 y188 0) = some r := by first | (rw [hy188]; with_reducible exact H) | (have H2_ := (Option.bind_some _ _).symm.trans H; rw [hy188]; with_reducible exact H2_) | (have H2_ := (Option.bind_some _ _).symm.trans H; with_reducible exact H2_) | with_reducible exact H | (rw [hy188]; exact H) | exact H
   have Ny188 := Aside0.mk hy188
   clear hy188
   have H' := Aside0.mk H
   clear H
   go_enter Tryd.func28, Tryd.ntmps28
   go_wp2_with (first | ((with_reducible refine gate_dst (N := 7) rfl ?_); refine Kd.S_make k62 _ 62 rfl (N := 7) rfl 26 _ _ rfl (l0.length : Int) rfl rfl Tryd.underlying26 (.agg #[(.int .i64 0), (.int .i64 0), (.bool false), (.slice none 0 0), (.bool false), (.slice none 0 0)]) 80 info62 rfl (by decide) (by omega) z62 (ok := fun _ => True) (okp := fun _ => True) (k62_mkM _ _ _ z62 (Kd.R_nil _ _ _ _ _) (Kd.R_nil _ _ _ _ _)) (fun _ hk => hk) trivial (td) (Nat.le_trans (Nat.mul_le_mul_right _ (td : (l0.length : Int).toNat ≤ 3518437208883)) (by omega)) (Below.refl _ _) (Nat.le_refl _) ?_; intro v189 w4 ho5 hb hg_ hnew_; clear hg_ hnew_; (first | rw [← Ny188.out] at ho5 | (simp only [Int.reduceToNat] at ho5; rw [← Ny188.out] at ho5)); have HO190 := tSl ho5 HB; replace HB := tBs HB hb; clear hb ho5))
   go_loopg [4] k (fun kq v4 w' => ∃ (x3_1 : List (S62)) (x4_1 : Int), v4 = .int .i64 x4_1 ∧ Aside0 (laws_toRecordS.l0 kq l0 x3_1 x4_1 = some r) ∧ Aside0 (kq ≤ k) ∧ Aside0 (Kd.S k62 62 w' w.heap.size (fun _ => True) v189 x3_1) ∧ Aside0 (Below w.heap.size w w'))
   case atStart => exact ⟨(y188), (0), tr, H', ⟨Nat.le_refl _⟩, ⟨tS HO190.out⟩, ⟨zb⟩⟩
   case round =>
    clear H'
    try clear c2; try clear c2b0; try clear c2b1; try clear c3; try clear c3b0; try clear c3b1
    obtain ⟨x3_1, x4_1, rfl, HA, HK1, HO_3, HB⟩ := hrel
    cases gk with
    | zero => exact absurd HA.out (by simp [laws_toRecordS.l0])
    | succ k1 =>
     have H := HA.out
     clear HA
     simp only [laws_toRecordS.l0] at H
     by_cases c6 : x4_1 < (l0.length : Int)
     ·rw [if_pos c6] at H
      have c6b0 : decide (x4_1 < (l0.length : Int)) = true := decide_eq_true c6
      clear c6
      by_cases c7 : 0 ≤ x4_1
      ·rw [if_pos c7] at H
       have c7b0 : decide (0 ≤ x4_1) = true := decide_eq_true c7
       clear c7
       replace H := tbe H
       obtain ⟨⟨t192, t193, t194, t195, t198, t199⟩, A8, H⟩ := H
       dsimp only at H
       by_cases c9 : x4_1 < (x3_1.length : Int)
       ·rw [if_pos c9] at H
        have c9b0 : decide (x4_1 < (x3_1.length : Int)) = true := decide_eq_true c9
        clear c9
        obtain ⟨y202, hy202⟩ : ∃ y_ : List (S62), y_ = (x3_1.set (x4_1 : Int).toNat (⟨t192, t193, t194, t195, t198, t199⟩ : S62)) := ⟨_, rfl⟩
        replace H : (laws_toRecordS.l0 k1 l0 y202 (wrap64 (x4_1 + 1))) = some r := by first | (rw [hy202]; with_reducible exact H) | (have H2_ := (Option.bind_some _ _).symm.trans H; rw [hy202]; with_reducible exact H2_) | (have H2_ := (Option.bind_some _ _).symm.trans H; with_reducible exact H2_) | with_reducible exact H | (rw [hy202]; exact H) | exact H
        have Ny202 := Aside0.mk hy202
        clear hy202
        have H' := Aside0.mk H
        clear H
        have p191 : 0 ≤ (x4_1 : Int) := td
        have q191 : x4_1 < (l0.length : Int) := td
        obtain ⟨ad191, A191_3, c191_3, A191_5, c191_5, e191, hx191_0, hx191_1, hx191_2, hx191_3, hx191_4, hx191_5, hl191_3, hi191_3, hl191_5, hi191_5⟩ := at_T71 HR0.out x4_1 p191 q191
        cases e191
        replace hx191_0 := tcl HB hx191_0
        replace hx191_1 := tcl HB hx191_1
        replace hx191_2 := tcl HB hx191_2
        replace hx191_3 := tcl HB hx191_3
        replace hx191_4 := tcl HB hx191_4
        replace hx191_5 := tcl HB hx191_5
        have HR191_3 := Aside0.mk hi191_3
        have HC191_3 := Aside0.mk hl191_3
        clear hi191_3 hl191_3
        have HR191_5 := Aside0.mk hi191_5
        have HC191_5 := Aside0.mk hl191_5
        clear hi191_5 hl191_5
        replace p191 := eq_true p191
        replace q191 := eq_true q191
        go_wp2_with (first | ((with_reducible refine gate_callee (f := 46) rfl ?_); refine goesL_ (some 20) rfl rfl Tryd.func46 (by kernel_rfl) rfl #[.agg #[.int .i64 ((rd_T71 l0 x4_1).f0), .int .i64 ((rd_T71 l0 x4_1).f1), .bool ((rd_T71 l0 x4_1).f2), .slice A191_3 ((rd_T71 l0 x4_1).f3).length c191_3, .bool ((rd_T71 l0 x4_1).f4), .slice A191_5 ((rd_T71 l0 x4_1).f5).length c191_5]] rfl tq ?_; (with_reducible refine (laws_toRecord.calls k1 ((rd_T71 l0 x4_1).f0) ((rd_T71 l0 x4_1).f1) ((rd_T71 l0 x4_1).f2) _ _ ((rd_T71 l0 x4_1).f3) ((rd_T71 l0 x4_1).f4) _ _ ((rd_T71 l0 x4_1).f5) t192 t193 t194 t195 t198 t199 _ ?side1 ?side2 ?side3 ?side4 A8.out).mono ?_); (case side1 => exact tC (Kd.C_below HR191_3.out HB.out)); (case side2 => exact HC191_3.out); (case side3 => exact tC (Kd.C_below HR191_5.out HB.out)); (case side4 => exact HC191_5.out); rintro e w11 ⟨v196, v200, rfl, ho0, ho1, hb⟩; have u_v196 := tsv Tryd.prog v196 ho0; have u_v200 := tsv Tryd.prog v200 ho1; refine ⟨_, rfl, ?_⟩; replace HO_3 := Aside0.mk (Kd.S_mono (Kd.S_told (Kd.S_told (Kd.S_old (tS HO_3.out) hb) (Kd.R_base ho0)) (Kd.R_base ho1)) (fun _ h_ => h_.1)); have HO197 := tRl ho0 HB; have HO201 := tRl ho1 HB; replace HB := tBs HB hb; (try clear hb); (try clear hb2); (try clear hk); (try clear hi); (try clear ho0); (try clear ho1); have p10 : 0 ≤ (x4_1 : Int) := td; have q10 : (x4_1 : Int) < ((x3_1.length : Int) : Int) := td; obtain ⟨go10, co10, eo10, gb10, gl10, cl10, HG10⟩ := Kd.S_form HO_3.out (by omega); (first | cases eo10 | (injection eo10 with ea_ en_ ec_; (first | subst ea_ | (injection ea_ with ea_; subst ea_)); subst ec_; clear en_)); have GB10 := Aside0.mk gb10; have GG10 := Aside0.mk HG10; clear gb10 gl10 HG10; obtain ⟨_, ce10, hcl10, hM10, hcc10, hfr10, _, _⟩ := Kd.S_elem HO_3.out z62 (x4_1 : Int) p10 q10; obtain ⟨ve10_3, ve10_5, rfl, ge10_3, ge10_5⟩ := k62_openM hM10; have hx10_0 : w11.cell? ⟨go10, (x4_1 : Int).toNat * 6, none⟩ = some (.int .i64 ((rd_T62 x3_1 x4_1).f0)) := hcc10 0 _ rfl; have hx10_1 : w11.cell? ⟨go10, (x4_1 : Int).toNat * 6 + 1, none⟩ = some (.int .i64 ((rd_T62 x3_1 x4_1).f1)) := hcc10 1 _ rfl; have hx10_2 : w11.cell? ⟨go10, (x4_1 : Int).toNat * 6 + 2, none⟩ = some (.bool ((rd_T62 x3_1 x4_1).f2)) := hcc10 2 _ rfl; have hx10_3 : w11.cell? ⟨go10, (x4_1 : Int).toNat * 6 + 3, none⟩ = some (ve10_3) := hcc10 3 _ rfl; have hx10_4 : w11.cell? ⟨go10, (x4_1 : Int).toNat * 6 + 4, none⟩ = some (.bool ((rd_T62 x3_1 x4_1).f4)) := hcc10 4 _ rfl; have hx10_5 : w11.cell? ⟨go10, (x4_1 : Int).toNat * 6 + 5, none⟩ = some (ve10_5) := hcc10 5 _ rfl; have hf10_0 : w11.frozen? ⟨go10, (x4_1 : Int).toNat * 6, none⟩ = false := hfr10 0; have hf10_1 : w11.frozen? ⟨go10, (x4_1 : Int).toNat * 6 + 1, none⟩ = false := hfr10 1; have hf10_2 : w11.frozen? ⟨go10, (x4_1 : Int).toNat * 6 + 2, none⟩ = false := hfr10 2; have hf10_3 : w11.frozen? ⟨go10, (x4_1 : Int).toNat * 6 + 3, none⟩ = false := hfr10 3; have hf10_4 : w11.frozen? ⟨go10, (x4_1 : Int).toNat * 6 + 4, none⟩ = false := hfr10 4; have hf10_5 : w11.frozen? ⟨go10, (x4_1 : Int).toNat * 6 + 5, none⟩ = false := hfr10 5; clear hcl10 hcc10 hfr10 hM10; replace p10 := eq_true p10; replace q10 := eq_true q10; have n_ := Aside0.mk (Kd.S_mono (ok' := (fun k_ => some k_ ≠ (v196 : Value).ownBlock ∧ some k_ ≠ (v200 : Value).ownBlock)) HO_3.out (fun k_ hk => ⟨hk.1.2, hk.2⟩)); clear HO_3; have HO_3 := n_; clear n_; have HX12 := Aside0.mk (show Kd.S k62 62 w11 w.heap.size (fun k_ => ((fun _ => True)) k_ ∧ ¬ ((fun k_ => some k_ = (v196 : Value).ownBlock ∨ some k_ = (v200 : Value).ownBlock)) k_) (.slice (some ⟨go10, 0, none⟩) x3_1.length co10) x3_1 from (tSm HO_3.out)); obtain ⟨oki12, ce12, hcl12, hM12, hcc12, hfr12, hoki12, hH12⟩ := Kd.S_elem HX12.out z62 (x4_1 : Int) (td) (by have h_ : (x4_1 : Int) < ((x3_1.length : Int) : Int) := td; first | exact h_ | (have e_ := (Kd.S_reads' HO_3.out).1; omega) | simpa using h_); obtain ⟨ve12_3, ve12_5, rfl, ge12_3, ge12_5⟩ := k62_openM hM12; have HP12 := Kd.S_seg hH12 (td) (by have h_ : (x4_1 : Int) < ((x3_1.length : Int) : Int) := td; first | exact h_ | (have e_ := (Kd.S_reads' HO_3.out).1; omega) | simpa using h_) (seg := [.int .i64 t192, .int .i64 t193, .bool t194, v196, .bool t198, v200]) (j := 0) (show 6 ≤ 6 from by decide) (x' := (⟨t192, t193, t194, t195, t198, t199⟩ : S62)) (k62_mkM _ _ _ (⟨t192, t193, t194, t195, t198, t199⟩ : S62) (Kd.R_mono (Kd.R_tight rfl (Kd.R_mono (ok' := fun k_ => ((fun _ => True)) k_ ∧ k_ ≠ go10) (Kd.R_apart' (HO197.out) (Kd.S_typed HO_3.out) (by decide)) (fun k_ hk => ⟨trivial, fun e_ => (hk.2) (by rw [e_]; rfl)⟩))) (fun _ h_ => Or.inr (Or.inl h_))) (Kd.R_mono (Kd.R_tight rfl (Kd.R_mono (ok' := fun k_ => ((fun _ => True)) k_ ∧ k_ ≠ go10) (Kd.R_apart' (HO201.out) (Kd.S_typed HO_3.out) (by decide)) (fun k_ hk => ⟨trivial, fun e_ => (hk.2) (by rw [e_]; rfl)⟩))) (fun _ h_ => Or.inr (Or.inr (h_))))) (fun _ hk => hk) (fun k_ hk_ => hk_.elim (fun h_ => ((Kd.R_mono (ok' := fun k_ => ((fun _ => True)) k_ ∧ k_ ≠ go10) (Kd.R_apart' (HO197.out) (Kd.S_typed HO_3.out) (by decide)) (fun k_ hk => ⟨trivial, fun e_ => (hk.2) (by rw [e_]; rfl)⟩))).1 k_ h_.symm) (fun h_ => ((Kd.R_mono (ok' := fun k_ => ((fun _ => True)) k_ ∧ k_ ≠ go10) (Kd.R_apart' (HO201.out) (Kd.S_typed HO_3.out) (by decide)) (fun k_ hk => ⟨trivial, fun e_ => (hk.2) (by rw [e_]; rfl)⟩))).1 k_ h_.symm)); have hx12_0 := hcc12 0 _ rfl; (try simp only [show (k62).sz = 6 from rfl, Nat.mul_one, Nat.add_zero] at hx12_0); have hf12_0 := hfr12 0; (try simp only [show (k62).sz = 6 from rfl, Nat.mul_one, Nat.add_zero] at hf12_0); have hx12_1 := hcc12 1 _ rfl; (try simp only [show (k62).sz = 6 from rfl, Nat.mul_one, Nat.add_zero] at hx12_1); have hf12_1 := hfr12 1; (try simp only [show (k62).sz = 6 from rfl, Nat.mul_one, Nat.add_zero] at hf12_1); have hx12_2 := hcc12 2 _ rfl; (try simp only [show (k62).sz = 6 from rfl, Nat.mul_one, Nat.add_zero] at hx12_2); have hf12_2 := hfr12 2; (try simp only [show (k62).sz = 6 from rfl, Nat.mul_one, Nat.add_zero] at hf12_2); have hx12_3 := hcc12 3 _ rfl; (try simp only [show (k62).sz = 6 from rfl, Nat.mul_one, Nat.add_zero] at hx12_3); have hf12_3 := hfr12 3; (try simp only [show (k62).sz = 6 from rfl, Nat.mul_one, Nat.add_zero] at hf12_3); have hx12_4 := hcc12 4 _ rfl; (try simp only [show (k62).sz = 6 from rfl, Nat.mul_one, Nat.add_zero] at hx12_4); have hf12_4 := hfr12 4; (try simp only [show (k62).sz = 6 from rfl, Nat.mul_one, Nat.add_zero] at hf12_4); have hx12_5 := hcc12 5 _ rfl; (try simp only [show (k62).sz = 6 from rfl, Nat.mul_one, Nat.add_zero] at hx12_5); have hf12_5 := hfr12 5; (try simp only [show (k62).sz = 6 from rfl, Nat.mul_one, Nat.add_zero] at hf12_5); clear hcl12 hcc12 hfr12 hM12 hoki12 hH12) | ((with_reducible refine gate_store (t := 62) (p := 21) rfl ?_); refine store_event (t := 62) (p := 21) (v := ?vo_w13) (w1 := ((((((w11.setCell ⟨go10, (x4_1 : Int).toNat * 6, none⟩ (.int .i64 t192)).setCell ⟨go10, (x4_1 : Int).toNat * 6 + 1, none⟩ (.int .i64 t193)).setCell ⟨go10, (x4_1 : Int).toNat * 6 + 2, none⟩ (.bool t194)).setCell ⟨go10, (x4_1 : Int).toNat * 6 + 3, none⟩ (v196)).setCell ⟨go10, (x4_1 : Int).toNat * 6 + 4, none⟩ (.bool t198)).setCell ⟨go10, (x4_1 : Int).toNat * 6 + 5, none⟩ (v200))) ?hg ?ho ?hn ?hr ?_; (case ho => rfl); (case hg => rfl); (case hn => rfl); (case hr => first | (go_simp; done) | (go_simp; rfl)); intro w13 hw; have hg : w11.grownBy w13 (some go10) := (by rw [hw]; exact HP12.2); have hp_ : Kd.S k62 62 w13 w.heap.size (fun _ => True) (.slice (some ⟨go10, 0, none⟩) x3_1.length co10) y202 := (by rw [hw, Ny202.out]; exact HP12.1); clear HP12; replace HO_3 := Aside0.mk (hp_); replace HB := Aside0.mk ((by rw [hw]; exact below_set (below_set (below_set (below_set (below_set (below_set (HB.out) GB10.out) GB10.out) GB10.out) GB10.out) GB10.out) GB10.out : Below w.heap.size w w13)); clear HO197 HO201; clear hg hw hp_))
        go_roundg k1
        case measure => have := HK1.out; omega
        case rel => exact ⟨(y202), (wrap64 (x4_1 + 1)), tr, H', ⟨by have := HK1.out; omega⟩, ⟨tS HO_3.out⟩, ⟨zb⟩⟩
       ·rw [if_neg c9] at H
        exact absurd H (by simp)
      ·rw [if_neg c7] at H
       exact absurd H (by simp)
     ·rw [if_neg c6] at H
      have c6b0 : decide (x4_1 < (l0.length : Int)) = false := decide_eq_false c6
      clear c6
      obtain rfl := Option.some.inj H
      go_wp2
      go_ret
      exact ⟨_, by first | rfl | (simp [errW_none, errW_some] <;> rfl) | (simp [*, errW_none, errW_some] <;> rfl), tS HO_3.out, zb⟩
  ·rw [if_neg c3] at H
   exact absurd H (by simp)
 ·rw [if_neg c2] at H
  exact absurd H (by simp)

def laws_toBatch.f (k : Nat) (a0_0 : Bool) (a0_1 : Bool) (a0_2 : Int) (a0_3 : Int) (a0_4 : Int) (l0_5 : List (S71)) : Option (Bool × Bool × Int × Int × Int × (List (S62))) := (laws_toRecordS.f k l0_5).bind fun t206 => (some (a0_0, a0_1, a0_2, a0_3, a0_4, t206))
set_option maxHeartbeats 8000000 in
set_option maxRecDepth 100000 in
theorem laws_toBatch.calls (k : Nat) (a0_0 : Bool) (a0_1 : Bool) (a0_2 : Int) (a0_3 : Int) (a0_4 : Int) (A0_5 : Option Addr) (c0_5 : Nat) (l0_5 : List (S71)) (r1 : Bool) (r2 : Bool) (r3 : Int) (r4 : Int) (r5 : Int) (r6 : List (S62)) (w : World) (hr0_5 : Kd.C k71 w A0_5 l0_5.length l0_5) (hc0_5 : l0_5.length ≤ c0_5) (h : laws_toBatch.f k a0_0 a0_1 a0_2 a0_3 a0_4 l0_5 = some (r1, r2, r3, r4, r5, r6)) :
  Calls Tryd.prog 9 #[.agg #[.bool a0_0, .bool a0_1, .int .i64 a0_2, .int .i64 a0_3, .int .i64 a0_4, .slice A0_5 l0_5.length c0_5]] w fun e w' => ∃ v5_ : Value, e = .returned (.agg #[.bool r1, .bool r2, .int .i64 r3, .int .i64 r4, .int .i64 r5, v5_]) ∧ Kd.S k62 62 w' w.heap.size (fun _ => True) v5_ r6 ∧ Below w.heap.size w w' := by
 have hu24 := Tryd.underlying24
 have hu28 := Tryd.underlying28
 have HR0_5 := Aside0.mk hr0_5
 have HC0_5 := Aside0.mk hc0_5
 clear hr0_5 hc0_5
 have HB := Aside0.mk (Below.refl w.heap.size w)
 have H : ((laws_toRecordS.f k l0_5).bind fun t206 => (some (a0_0, a0_1, a0_2, a0_3, a0_4, t206))) = some (r1, r2, r3, r4, r5, r6) := h
 clear h
 replace H := tbe H
 obtain ⟨t206, A2, H⟩ := H
 simp only [Option.some.injEq, Prod.mk.injEq] at H
 obtain ⟨rfl, rfl, rfl, rfl, rfl, rfl⟩ := H
 go_enter Tryd.func9, Tryd.ntmps9
 go_wp2_with (first | ((with_reducible refine gate_dst (N := 1) rfl ?_); refine box_event ?hg (N := 1) ?hd (cs := #[.bool a0_0, .bool a0_1, .int .i64 a0_2, .int .i64 a0_3, .int .i64 a0_4, .slice A0_5 l0_5.length c0_5]) (t := 24) ?hr ?_; (case hd => rfl); (case hg => rfl); (case hr => first | (go_simp; done) | (go_simp; rfl)); intro gb203 hg w3 hbox hb; have BK203 := Aside0.mk (hbox); have GW203 := tge HB hg; have GE203 := tge HB hg; replace HB := tBs HB hb; clear hb hbox hg) | ((with_reducible refine gate_dst (N := 2) rfl ?_); refine box_event ?hg (N := 2) ?hd (cs := #[.bool false, .bool false, .int .i64 0, .int .i64 0, .int .i64 0, .slice none 0 0]) (t := 28) ?hr ?_; (case hd => rfl); (case hg => rfl); (case hr => first | (go_simp; done) | (go_simp; rfl)); intro gb204 hg w4 hbox hb; have BK204 := Aside0.mk (hbox); have GW204 := tge HB hg; have GE204 := tge HB hg; replace HB := tBs HB hb; have NB203_204 := tlt BK203 hg; have NB204_203 := tgt BK203 hg; replace BK203 := tBb BK203 hb; clear hb hbox hg) | ((with_reducible refine gate_dst (N := 3) rfl ?_); refine box_event ?hg (N := 3) ?hd (cs := #[.bool false, .bool false, .int .i64 0, .int .i64 0, .int .i64 0, .slice none 0 0]) (t := 28) ?hr ?_; (case hd => rfl); (case hg => rfl); (case hr => first | (go_simp; done) | (go_simp; rfl)); intro gb205 hg w5 hbox hb; have BK205 := Aside0.mk (hbox); have GW205 := tge HB hg; have GE205 := tge HB hg; replace HB := tBs HB hb; have NB203_205 := tlt BK203 hg; have NB205_203 := tgt BK203 hg; replace BK203 := tBb BK203 hb; have NB204_205 := tlt BK204 hg; have NB205_204 := tgt BK204 hg; replace BK204 := tBb BK204 hb; clear hb hbox hg; have hnb6 := NB203_204.out; have hnc6 := NB204_203.out; have hnb7 := NB203_205.out; have hnc7 := NB205_203.out; obtain ⟨hcz8_0, hcz8_1, hcz8_2, hcz8_3, hcz8_4, hcz8_5, hfz8_0, hfz8_1, hfz8_2, hfz8_3, hfz8_4, hfz8_5⟩ := cells6 BK203.out; have hnb9 := NB205_204.out; have hnc9 := NB204_205.out; obtain ⟨hcz10_0, hcz10_1, hcz10_2, hcz10_3, hcz10_4, hcz10_5, hfz10_0, hfz10_1, hfz10_2, hfz10_3, hfz10_4, hfz10_5⟩ := cells6 BK205.out) | ((with_reducible refine gate_callee (f := 28) rfl ?_); refine goesL_ (some 21) rfl rfl Tryd.func28 (by kernel_rfl) rfl #[.slice A0_5 l0_5.length c0_5] rfl tq ?_; (with_reducible refine (laws_toRecordS.calls k _ _ l0_5 t206 _ ?side1 ?side2 A2.out).mono ?_); (case side1 => exact Kd.C_below HR0_5.out zb); (case side2 => exact HC0_5.out); rintro e w11 ⟨v207, rfl, ho0, hb⟩; have u_v207 := tsv Tryd.prog v207 ho0; refine ⟨_, rfl, ?_⟩; have HO208 := tSl ho0 HB; replace BK203 := tBb BK203 hb; replace BK204 := tBb BK204 hb; replace BK205 := tBp (o' := .cells #[.bool a0_0, .bool a0_1, .int .i64 a0_2, .int .i64 a0_3, .int .i64 a0_4, .slice none 0 0] 28 (0, 0)) BK205 hb; replace HB := tBs HB hb; (try clear hb); (try clear hb2); (try clear hk); (try clear hi); (try clear ho0); obtain ⟨Ao12, co12, eo12⟩ := Kd.S_slice HO208.out; subst eo12; obtain ⟨hcz13_0, hcz13_1, hcz13_2, hcz13_3, hcz13_4, hcz13_5, hfz13_0, hfz13_1, hfz13_2, hfz13_3, hfz13_4, hfz13_5⟩ := cells6 BK205.out; obtain ⟨hcz14_0, hcz14_1, hcz14_2, hcz14_3, hcz14_4, hcz14_5, hfz14_0, hfz14_1, hfz14_2, hfz14_3, hfz14_4, hfz14_5⟩ := cells6 BK204.out))
 refine bodyPost_ret (results_cell_row rfl _ _ gb204 28 #[.bool a0_0, .bool a0_1, .int .i64 a0_2, .int .i64 a0_3, .int .i64 a0_4, .slice Ao12 t206.length co12] (0, 0) _ rfl (tP BK204.out) Tryd.underlying28 rfl (by kernel_rfl)) rfl ?_
 exact ⟨_, by first | rfl | (simp [errW_none, errW_some] <;> rfl) | (simp [*, errW_none, errW_some] <;> rfl), tSm (Kd.S_types (Kd.S_types HO208.out BK205.out (by decide)) BK204.out (by decide)), zb⟩

end Go.Proofs.YtfjkpdhldeopaaaDoor.G

namespace Go.Proofs.YtfjkpdhldeopaaaDoor.G
open Go.RowKit Go.Proofs.YtfjkpdhldeopaaaDoorW.PrintWords Go.Proofs.YtfjkpdhldeopaaaDoorW.PrintLast Go.Proofs.YtfjkpdhldeopaaaDoorW.PrintMore
attribute [local go_sem] max2_int min2_int max_two min_two max_three min_three max_four min_four   -- for this text's walks alone
set_option linter.unusedVariables false
set_option linter.unusedSimpArgs false

mutual
def spec_BatchCut.j0 : Nat → Int → Bool → Bool → Bool → Int → Int → Int → List (S62) → Option (Bool × Bool × Int × Int × Int × (List (S62)) × Bool × Bool × Int × Int × Int × (List (S62)) × Bool)
 | 0, _, _, _, _, _, _, _, _ => none
 | k + 1, x1, x15, x311000, x311001, x311002, x311003, x311004, x311005 => if x15 = true then (some (false, false, 0, 0, 0, ([] : List (S62)), false, false, 0, 0, 0, ([] : List (S62)), false)) else (spec_BatchCut.l0 k x1 0 x311000 x311001 x311002 x311003 x311004 x311005)
def spec_BatchCut.j2 : Nat → Int → Bool → Bool → Int → Int → Int → List (S62) → Option (Bool × Bool × Int × Int × Int × (List (S62)) × Bool × Bool × Int × Int × Int × (List (S62)) × Bool)
 | 0, _, _, _, _, _, _, _ => none
 | k + 1, x7, x311000, x311001, x311002, x311003, x311004, x311005 => if x7 = 0 then (spec_BatchCut.j3 k x7 true x311000 x311001 x311002 x311003 x311004 x311005) else (spec_BatchCut.j3 k x7 (x7 == (x311005.length : Int)) x311000 x311001 x311002 x311003 x311004 x311005)
def spec_BatchCut.j3 : Nat → Int → Bool → Bool → Bool → Int → Int → Int → List (S62) → Option (Bool × Bool × Int × Int × Int × (List (S62)) × Bool × Bool × Int × Int × Int × (List (S62)) × Bool)
 | 0, _, _, _, _, _, _, _, _ => none
 | k + 1, x7, x43, x311000, x311001, x311002, x311003, x311004, x311005 => if x43 = true then (some (false, false, 0, 0, 0, ([] : List (S62)), false, false, 0, 0, 0, ([] : List (S62)), false)) else (if 0 ≤ x7 then (if x7 ≤ (x311005.length : Int) then ((spec_l31Free.f k x311000 (x311005.take (x7 : Int).toNat)).bind fun bt319 => ((spec_l31Free.f k x311000 (x311005.drop (x7 : Int).toNat)).bind fun bt331 => (some (bt319.1, bt319.2.1, bt319.2.2.1, bt319.2.2.2.1, bt319.2.2.2.2.1, bt319.2.2.2.2.2, bt331.1, bt331.2.1, bt331.2.2.1, bt331.2.2.2.1, bt331.2.2.2.2.1, bt331.2.2.2.2.2, true)))) else (none)) else (none))
def spec_BatchCut.l0 : Nat → Int → Int → Bool → Bool → Int → Int → Int → List (S62) → Option (Bool × Bool × Int × Int × Int × (List (S62)) × Bool × Bool × Int × Int × Int × (List (S62)) × Bool)
 | 0, _, _, _, _, _, _, _, _ => none
 | k + 1, x1, x7, x311000, x311001, x311002, x311003, x311004, x311005 => if x7 < (x311005.length : Int) then (if 0 ≤ x7 then (if ((rd_T62 x311005 x7).f0) < x1 then (spec_BatchCut.l0 k x1 (wrap64 (x7 + 1)) x311000 x311001 x311002 x311003 x311004 x311005) else (spec_BatchCut.j2 k x7 x311000 x311001 x311002 x311003 x311004 x311005)) else (none)) else (spec_BatchCut.j2 k x7 x311000 x311001 x311002 x311003 x311004 x311005)
end
def spec_BatchCut.f (k : Nat) (a0_0 : Bool) (a0_1 : Bool) (a0_2 : Int) (a0_3 : Int) (a0_4 : Int) (l0_5 : List (S62)) (a1 : Int) : Option (Bool × Bool × Int × Int × Int × (List (S62)) × Bool × Bool × Int × Int × Int × (List (S62)) × Bool) := (spec_BatchValid.f k a0_0 a0_1 a0_2 a0_3 a0_4 l0_5).bind fun t313 => (if t313 = true then (spec_BatchCut.j0 k a1 (a0_2 != 255) a0_0 a0_1 a0_2 a0_3 a0_4 l0_5) else (spec_BatchCut.j0 k a1 true a0_0 a0_1 a0_2 a0_3 a0_4 l0_5))
def spec_BatchCut.T8 : Bool × List (List Nat × List Nat) := (true, [([], []), ([0], [0]), ([], []), ([2], [2]), ([], []), ([3, 4], [3, 4]), ([1, 5], [1, 5]), ([], []), ([7], [7]), ([], []), ([9], [9]), ([], []), ([10, 11], [10, 11]), ([8, 12, 6], [8, 12]), ([6, 13, 0, 1, 2, 3, 4, 5, 6], [6]), ([13, 14, 0, 1, 2, 3, 4, 5, 6, 7, 8, 9, 10, 11, 12, 13, 14], [13]), ([15, 0, 1, 2, 3, 4, 5, 6, 7, 8, 9, 10, 11, 12, 13, 14, 15], [])])
def spec_BatchCut.B8 : List Nat := [0, 1, 0, 4, 0, 28, 63, 0, 128, 0, 512, 0, 3584, 8191, 16383, 32767, 65535]
theorem spec_BatchCut.tab8 : rtab .any (opsOf Tryd.f14 8) = spec_BatchCut.T8 := by kernel_rfl
theorem spec_BatchCut.bits8 : waitsOk spec_BatchCut.T8.2 spec_BatchCut.B8 = true := by kernel_rfl
set_option maxHeartbeats 8000000 in
set_option maxRecDepth 100000 in
theorem spec_BatchCut.calls (k : Nat) (a0_0 : Bool) (a0_1 : Bool) (a0_2 : Int) (a0_3 : Int) (a0_4 : Int) (A0_5 : Option Addr) (c0_5 : Nat) (l0_5 : List (S62)) (a1 : Int) (r1 : Bool) (r2 : Bool) (r3 : Int) (r4 : Int) (r5 : Int) (r6 : List (S62)) (r7 : Bool) (r8 : Bool) (r9 : Int) (r10 : Int) (r11 : Int) (r12 : List (S62)) (r13 : Bool) (w : World) (hr0_5 : Kd.C k62 w A0_5 l0_5.length l0_5) (hc0_5 : l0_5.length ≤ c0_5) (h : spec_BatchCut.f k a0_0 a0_1 a0_2 a0_3 a0_4 l0_5 a1 = some (r1, r2, r3, r4, r5, r6, r7, r8, r9, r10, r11, r12, r13)) :
  Calls Tryd.prog 14 #[.agg #[.bool a0_0, .bool a0_1, .int .i64 a0_2, .int .i64 a0_3, .int .i64 a0_4, .slice A0_5 l0_5.length c0_5], .int .i64 a1] w fun e w' => ∃ v5_ v11_ : Value, e = .returned (.tuple #[.agg #[.bool r1, .bool r2, .int .i64 r3, .int .i64 r4, .int .i64 r5, v5_], .agg #[.bool r7, .bool r8, .int .i64 r9, .int .i64 r10, .int .i64 r11, v11_], .bool r13]) ∧ Kd.S k62 62 w' w.heap.size (fun k_ => some k_ ≠ (v11_ : Value).ownBlock) v5_ r6 ∧ Kd.S k62 62 w' w.heap.size (fun k_ => some k_ ≠ (v5_ : Value).ownBlock) v11_ r12 ∧ Below w.heap.size w w' := by
 have hu28 := Tryd.underlying28
 have HR0_5 := Aside0.mk hr0_5
 have HC0_5 := Aside0.mk hc0_5
 clear hr0_5 hc0_5
 have HB := Aside0.mk (Below.refl w.heap.size w)
 have H : ((spec_BatchValid.f k a0_0 a0_1 a0_2 a0_3 a0_4 l0_5).bind fun t313 => (if t313 = true then (spec_BatchCut.j0 k a1 (a0_2 != 255) a0_0 a0_1 a0_2 a0_3 a0_4 l0_5) else (spec_BatchCut.j0 k a1 true a0_0 a0_1 a0_2 a0_3 a0_4 l0_5))) = some (r1, r2, r3, r4, r5, r6, r7, r8, r9, r10, r11, r12, r13) := h
 clear h
 have HC3 := Aside0.mk H
 clear H
 go_enter Tryd.func14, Tryd.ntmps14
 go_upto_region 1 with (first | ((with_reducible refine gate_dst (N := 2) rfl ?_); (try (refine gate_guard (by rfl) ?_; dsimp only)); refine box_event ?hg (N := 2) ?hd (cs := #[.bool a0_0, .bool a0_1, .int .i64 a0_2, .int .i64 a0_3, .int .i64 a0_4, .slice A0_5 l0_5.length c0_5]) (t := 28) ?hr ?_; (case hd => rfl); (case hg => rfl); (case hr => first | (go_simp; done) | (go_simp; rfl)); intro gb310 hg w4 hbox hb; have BK310 := Aside0.mk (hbox); have GW310 := tge HB hg; have GE310 := tge HB hg; replace HB := tBs HB hb; clear hb hbox hg) | ((with_reducible refine gate_dst (N := 4) rfl ?_); (try (refine gate_guard (by rfl) ?_; dsimp only)); refine box_event ?hg (N := 4) ?hd (cs := #[.bool false, .bool false, .int .i64 0, .int .i64 0, .int .i64 0, .slice none 0 0]) (t := 28) ?hr ?_; (case hd => rfl); (case hg => rfl); (case hr => first | (go_simp; done) | (go_simp; rfl)); intro gb311 hg w5 hbox hb; have BK311 := Aside0.mk (hbox); have GW311 := tge HB hg; have GE311 := tge HB hg; replace HB := tBs HB hb; have NB310_311 := tlt BK310 hg; have NB311_310 := tgt BK310 hg; replace BK310 := tBb BK310 hb; clear hb hbox hg) | ((with_reducible refine gate_dst (N := 5) rfl ?_); (try (refine gate_guard (by rfl) ?_; dsimp only)); refine box_event ?hg (N := 5) ?hd (cs := #[.bool false, .bool false, .int .i64 0, .int .i64 0, .int .i64 0, .slice none 0 0]) (t := 28) ?hr ?_; (case hd => rfl); (case hg => rfl); (case hr => first | (go_simp; done) | (go_simp; rfl)); intro gb312 hg w6 hbox hb; have BK312 := Aside0.mk (hbox); have GW312 := tge HB hg; have GE312 := tge HB hg; replace HB := tBs HB hb; have NB310_312 := tlt BK310 hg; have NB312_310 := tgt BK310 hg; replace BK310 := tBb BK310 hb; have NB311_312 := tlt BK311 hg; have NB312_311 := tgt BK311 hg; replace BK311 := tBb BK311 hb; clear hb hbox hg))
 (try simp only [Act.put, List.setIfInBounds_toArray, List.set_cons_zero, List.set_cons_succ])
 go_cut [15] (fun v15 wc => ∃ (kq : Nat) (x15_2 : Bool), v15 = .bool x15_2 ∧ Aside0 (spec_BatchCut.j0 kq a1 x15_2 a0_0 a0_1 a0_2 a0_3 a0_4 l0_5 = some (r1, r2, r3, r4, r5, r6, r7, r8, r9, r10, r11, r12, r13)) ∧ Aside0 (kq ≤ k) ∧ Aside0 (wc.heap[gb310]? = some (.cells #[.bool a0_0, .bool a0_1, .int .i64 a0_2, .int .i64 a0_3, .int .i64 a0_4, (.slice A0_5 l0_5.length c0_5)] 28 (0, 0))) ∧ Aside0 (wc.heap[gb311]? = some (.cells #[.bool false, .bool false, .int .i64 0, .int .i64 0, .int .i64 0, (.slice none 0 0)] 28 (0, 0))) ∧ Aside0 (wc.heap[gb312]? = some (.cells #[.bool false, .bool false, .int .i64 0, .int .i64 0, .int .i64 0, (.slice none 0 0)] 28 (0, 0))) ∧ Aside0 (Below w.heap.size w wc))
 case first =>
  have H := HC3.out
  clear HC3
  replace H := tbe H
  obtain ⟨t313, A7, H⟩ := H
  by_cases c8 : t313 = true
  ·subst c8
   rw [if_pos rfl] at H
   have H' := Aside0.mk H
   clear H
   have hnb9 := NB310_311.out
   have hnc9 := NB311_310.out
   have hnb10 := NB310_312.out
   have hnc10 := NB312_310.out
   obtain ⟨hcz11_0, hcz11_1, hcz11_2, hcz11_3, hcz11_4, hcz11_5, hfz11_0, hfz11_1, hfz11_2, hfz11_3, hfz11_4, hfz11_5⟩ := cells6 BK310.out
   go_wp2_with (first | ((with_reducible refine gate_callee (f := 26) rfl ?_); refine goesL_ (some 9) rfl rfl Tryd.func26 (by kernel_rfl) rfl #[.agg #[.bool a0_0, .bool a0_1, .int .i64 a0_2, .int .i64 a0_3, .int .i64 a0_4, .slice A0_5 l0_5.length c0_5]] rfl tq ?_; (with_reducible refine (spec_BatchValid.calls k a0_0 a0_1 a0_2 a0_3 a0_4 _ _ l0_5 true _ ?side1 ?side2 A7.out).mono ?_); (case side1 => exact tC (Kd.C_below HR0_5.out HB.out)); (case side2 => exact HC0_5.out); rintro e w12 ⟨rfl, hb⟩; refine ⟨_, rfl, ?_⟩; replace BK310 := tBb BK310 hb; replace BK311 := tBb BK311 hb; replace BK312 := tBb BK312 hb; replace HB := tBs HB hb; (try clear hb); (try clear hb2); (try clear hk); (try clear hi); obtain ⟨hcz13_0, hcz13_1, hcz13_2, hcz13_3, hcz13_4, hcz13_5, hfz13_0, hfz13_1, hfz13_2, hfz13_3, hfz13_4, hfz13_5⟩ := cells6 BK310.out))
   go_meet
   case rel => exact ⟨_, ((a0_2 != 255)), tr, H', ⟨by first | omega | exact Nat.le_refl _⟩, ⟨tH BK310.out⟩, ⟨tH BK311.out⟩, ⟨tH BK312.out⟩, ⟨zb⟩⟩
  ·replace c8 := Bool.eq_false_iff.mpr c8
   subst c8
   rw [if_neg (show ¬ (false = true) by decide)] at H
   have H' := Aside0.mk H
   clear H
   have hnb14 := NB310_311.out
   have hnc14 := NB311_310.out
   have hnb15 := NB310_312.out
   have hnc15 := NB312_310.out
   obtain ⟨hcz16_0, hcz16_1, hcz16_2, hcz16_3, hcz16_4, hcz16_5, hfz16_0, hfz16_1, hfz16_2, hfz16_3, hfz16_4, hfz16_5⟩ := cells6 BK310.out
   go_wp2_with (first | ((with_reducible refine gate_callee (f := 26) rfl ?_); refine goesL_ (some 9) rfl rfl Tryd.func26 (by kernel_rfl) rfl #[.agg #[.bool a0_0, .bool a0_1, .int .i64 a0_2, .int .i64 a0_3, .int .i64 a0_4, .slice A0_5 l0_5.length c0_5]] rfl tq ?_; (with_reducible refine (spec_BatchValid.calls k a0_0 a0_1 a0_2 a0_3 a0_4 _ _ l0_5 false _ ?side1 ?side2 A7.out).mono ?_); (case side1 => exact tC (Kd.C_below HR0_5.out HB.out)); (case side2 => exact HC0_5.out); rintro e w17 ⟨rfl, hb⟩; refine ⟨_, rfl, ?_⟩; replace BK310 := tBb BK310 hb; replace BK311 := tBb BK311 hb; replace BK312 := tBb BK312 hb; replace HB := tBs HB hb; (try clear hb); (try clear hb2); (try clear hk); (try clear hi)))
   go_meet
   case rel => exact ⟨_, (true), tr, H', ⟨by first | omega | exact Nat.le_refl _⟩, ⟨tH BK310.out⟩, ⟨tH BK311.out⟩, ⟨tH BK312.out⟩, ⟨zb⟩⟩
 case rest =>
  clear HC3
  obtain ⟨kq, x15_2, rfl, HA, HJ2, BK310, BK311, BK312, HB⟩ := hcut
  cases kq with
  | zero => exact absurd HA.out (by simp [spec_BatchCut.j0])
  | succ kj2 =>
   have H := HA.out
   clear HA
   simp only [spec_BatchCut.j0] at H
   by_cases c18 : x15_2 = true
   ·subst c18
    rw [if_pos rfl] at H
    simp only [Option.some.injEq, Prod.mk.injEq] at H
    obtain ⟨rfl, rfl, rfl, rfl, rfl, rfl, rfl, rfl, rfl, rfl, rfl, rfl, rfl⟩ := H
    have hnb19 := NB311_310.out
    have hnc19 := NB310_311.out
    have hnb20 := NB311_312.out
    have hnc20 := NB312_311.out
    obtain ⟨hcz21_0, hcz21_1, hcz21_2, hcz21_3, hcz21_4, hcz21_5, hfz21_0, hfz21_1, hfz21_2, hfz21_3, hfz21_4, hfz21_5⟩ := cells6 BK311.out
    have hnb22 := NB312_310.out
    have hnc22 := NB310_312.out
    obtain ⟨hcz23_0, hcz23_1, hcz23_2, hcz23_3, hcz23_4, hcz23_5, hfz23_0, hfz23_1, hfz23_2, hfz23_3, hfz23_4, hfz23_5⟩ := cells6 BK312.out
    go_wp2
    refine bodyPost_ret (results_list (rs := [.cell 4 28, .cell 5 28, .tmp 6]) rfl (by simp) (.cell gb311 28 #[.bool false, .bool false, .int .i64 0, .int .i64 0, .int .i64 0, .slice none 0 0] (0, 0) _ rfl (tP BK311.out) Tryd.underlying28 rfl (by kernel_rfl) (.cell gb312 28 #[.bool false, .bool false, .int .i64 0, .int .i64 0, .int .i64 0, .slice none 0 0] (0, 0) _ rfl (tP BK312.out) Tryd.underlying28 rfl (by kernel_rfl) (.tmp .nil)))) rfl ?_
    exact ⟨_, _, by first | rfl | (simp [errW_none, errW_some] <;> rfl) | (simp [*, errW_none, errW_some] <;> rfl), by first | exact Kd.S_nil _ _ _ _ _ | exact Kd.N_nil _ _ _ _ _ | exact Kd.V_nil _ _ _ _ _ | exact Kd.Q_nil _ _ _ _ _ | exact Kd.R_nil _ _ _ _ _, by first | exact Kd.S_nil _ _ _ _ _ | exact Kd.N_nil _ _ _ _ _ | exact Kd.V_nil _ _ _ _ _ | exact Kd.Q_nil _ _ _ _ _ | exact Kd.R_nil _ _ _ _ _, zb⟩
   ·replace c18 := Bool.eq_false_iff.mpr c18
    subst c18
    rw [if_neg (show ¬ (false = true) by decide)] at H
    have HC24 := Aside0.mk H
    clear H
    go_upto_block 0 with (fail)
    go_cut [7] (fun v7 wc => ∃ (kq : Nat) (x7_23 : Int), v7 = .int .i64 x7_23 ∧ Aside0 (spec_BatchCut.j2 kq x7_23 a0_0 a0_1 a0_2 a0_3 a0_4 l0_5 = some (r1, r2, r3, r4, r5, r6, r7, r8, r9, r10, r11, r12, r13)) ∧ Aside0 (kq ≤ kj2) ∧ Aside0 (wc.heap[gb310]? = some (.cells #[.bool a0_0, .bool a0_1, .int .i64 a0_2, .int .i64 a0_3, .int .i64 a0_4, (.slice A0_5 l0_5.length c0_5)] 28 (0, 0))) ∧ Aside0 (wc.heap[gb311]? = some (.cells #[.bool false, .bool false, .int .i64 0, .int .i64 0, .int .i64 0, (.slice none 0 0)] 28 (0, 0))) ∧ Aside0 (wc.heap[gb312]? = some (.cells #[.bool false, .bool false, .int .i64 0, .int .i64 0, .int .i64 0, (.slice none 0 0)] 28 (0, 0))) ∧ Aside0 (Below w.heap.size w wc))
    case first =>
     have H := HC24.out
     clear HC24
     have H' := Aside0.mk H
     clear H
     go_wp2
     go_loopg [7] kj2 (fun kq v7 w' => ∃ (x7_2 : Int), v7 = .int .i64 x7_2 ∧ Aside0 (spec_BatchCut.l0 kq a1 x7_2 a0_0 a0_1 a0_2 a0_3 a0_4 l0_5 = some (r1, r2, r3, r4, r5, r6, r7, r8, r9, r10, r11, r12, r13)) ∧ Aside0 (kq ≤ kj2) ∧ Aside0 (w'.heap[gb310]? = some (.cells #[.bool a0_0, .bool a0_1, .int .i64 a0_2, .int .i64 a0_3, .int .i64 a0_4, (.slice A0_5 l0_5.length c0_5)] 28 (0, 0))) ∧ Aside0 (w'.heap[gb311]? = some (.cells #[.bool false, .bool false, .int .i64 0, .int .i64 0, .int .i64 0, (.slice none 0 0)] 28 (0, 0))) ∧ Aside0 (w'.heap[gb312]? = some (.cells #[.bool false, .bool false, .int .i64 0, .int .i64 0, .int .i64 0, (.slice none 0 0)] 28 (0, 0))) ∧ Aside0 (Below w.heap.size w w'))
     case atStart => exact ⟨(0), tr, H', ⟨Nat.le_refl _⟩, ⟨tH BK310.out⟩, ⟨tH BK311.out⟩, ⟨tH BK312.out⟩, ⟨zb⟩⟩
     case round =>
      clear H'
      try clear c18
      obtain ⟨x7_2, rfl, HA, HK2, BK310, BK311, BK312, HB⟩ := hrel
      cases gk with
      | zero => exact absurd HA.out (by simp [spec_BatchCut.l0])
      | succ k2 =>
       have H := HA.out
       clear HA
       simp only [spec_BatchCut.l0] at H
       by_cases c25 : x7_2 < (l0_5.length : Int)
       ·rw [if_pos c25] at H
        have c25b0 : decide (x7_2 < (l0_5.length : Int)) = true := decide_eq_true c25
        clear c25
        (first | rw [c25b0] | (simp only [i64_w, i32_w]; rw [c25b0]) | skip)
        by_cases c26 : 0 ≤ x7_2
        ·rw [if_pos c26] at H
         have c26b0 : decide (0 ≤ x7_2) = true := decide_eq_true c26
         clear c26
         by_cases c27 : ((rd_T62 l0_5 x7_2).f0) < a1
         ·rw [if_pos c27] at H
          have c27b0 : decide (((rd_T62 l0_5 x7_2).f0) < a1) = true := decide_eq_true c27
          clear c27
          have H' := Aside0.mk H
          clear H
          have hnb28 := NB310_311.out
          have hnc28 := NB311_310.out
          have hnb29 := NB310_312.out
          have hnc29 := NB312_310.out
          obtain ⟨hcz30_0, hcz30_1, hcz30_2, hcz30_3, hcz30_4, hcz30_5, hfz30_0, hfz30_1, hfz30_2, hfz30_3, hfz30_4, hfz30_5⟩ := cells6 BK310.out
          have p314 : 0 ≤ (x7_2 : Int) := td
          have q314 : x7_2 < (l0_5.length : Int) := td
          obtain ⟨ad314, A314_3, c314_3, A314_5, c314_5, e314, hx314_0, hx314_1, hx314_2, hx314_3, hx314_4, hx314_5, hl314_3, hi314_3, hl314_5, hi314_5⟩ := at_T62 HR0_5.out x7_2 p314 q314
          cases e314
          replace hx314_0 := tcl HB hx314_0
          replace hx314_1 := tcl HB hx314_1
          replace hx314_2 := tcl HB hx314_2
          replace hx314_3 := tcl HB hx314_3
          replace hx314_4 := tcl HB hx314_4
          replace hx314_5 := tcl HB hx314_5
          have HR314_3 := Aside0.mk hi314_3
          have HC314_3 := Aside0.mk hl314_3
          clear hi314_3 hl314_3
          have HR314_5 := Aside0.mk hi314_5
          have HC314_5 := Aside0.mk hl314_5
          clear hi314_5 hl314_5
          replace p314 := eq_true p314
          replace q314 := eq_true q314
          go_wp2
          go_roundg k2
          case measure => have := HJ2.out; have := HK2.out; omega
          case rel => exact ⟨(wrap64 (x7_2 + 1)), tr, H', ⟨by have := HJ2.out; have := HK2.out; omega⟩, ⟨tH BK310.out⟩, ⟨tH BK311.out⟩, ⟨tH BK312.out⟩, ⟨zb⟩⟩
         ·rw [if_neg c27] at H
          have c27b0 : decide (((rd_T62 l0_5 x7_2).f0) < a1) = false := decide_eq_false c27
          clear c27
          have H' := Aside0.mk H
          clear H
          have hnb31 := NB310_311.out
          have hnc31 := NB311_310.out
          have hnb32 := NB310_312.out
          have hnc32 := NB312_310.out
          obtain ⟨hcz33_0, hcz33_1, hcz33_2, hcz33_3, hcz33_4, hcz33_5, hfz33_0, hfz33_1, hfz33_2, hfz33_3, hfz33_4, hfz33_5⟩ := cells6 BK310.out
          have p314 : 0 ≤ (x7_2 : Int) := td
          have q314 : x7_2 < (l0_5.length : Int) := td
          obtain ⟨ad314, A314_3, c314_3, A314_5, c314_5, e314, hx314_0, hx314_1, hx314_2, hx314_3, hx314_4, hx314_5, hl314_3, hi314_3, hl314_5, hi314_5⟩ := at_T62 HR0_5.out x7_2 p314 q314
          cases e314
          replace hx314_0 := tcl HB hx314_0
          replace hx314_1 := tcl HB hx314_1
          replace hx314_2 := tcl HB hx314_2
          replace hx314_3 := tcl HB hx314_3
          replace hx314_4 := tcl HB hx314_4
          replace hx314_5 := tcl HB hx314_5
          have HR314_3 := Aside0.mk hi314_3
          have HC314_3 := Aside0.mk hl314_3
          clear hi314_3 hl314_3
          have HR314_5 := Aside0.mk hi314_5
          have HC314_5 := Aside0.mk hl314_5
          clear hi314_5 hl314_5
          replace p314 := eq_true p314
          replace q314 := eq_true q314
          go_wp2
          go_meet
          case rel => exact ⟨_, (x7_2), tr, H', ⟨by have := HJ2.out; have := HK2.out; first | omega | exact Nat.le_refl _⟩, ⟨tH BK310.out⟩, ⟨tH BK311.out⟩, ⟨tH BK312.out⟩, ⟨zb⟩⟩
        ·rw [if_neg c26] at H
         exact absurd H (by simp)
       ·rw [if_neg c25] at H
        have c25b0 : decide (x7_2 < (l0_5.length : Int)) = false := decide_eq_false c25
        clear c25
        (first | rw [c25b0] | (simp only [i64_w, i32_w]; rw [c25b0]) | skip)
        have H' := Aside0.mk H
        clear H
        have hnb34 := NB310_311.out
        have hnc34 := NB311_310.out
        have hnb35 := NB310_312.out
        have hnc35 := NB312_310.out
        obtain ⟨hcz36_0, hcz36_1, hcz36_2, hcz36_3, hcz36_4, hcz36_5, hfz36_0, hfz36_1, hfz36_2, hfz36_3, hfz36_4, hfz36_5⟩ := cells6 BK310.out
        go_wp2
        go_meet
        case rel => exact ⟨_, (x7_2), tr, H', ⟨by have := HJ2.out; have := HK2.out; first | omega | exact Nat.le_refl _⟩, ⟨tH BK310.out⟩, ⟨tH BK311.out⟩, ⟨tH BK312.out⟩, ⟨zb⟩⟩
    case rest =>
     clear HC24
     try clear c18
     obtain ⟨kq, x7_23, rfl, HA, HJ23, BK310, BK311, BK312, HB⟩ := hcut
     cases kq with
     | zero => exact absurd HA.out (by simp [spec_BatchCut.j2])
     | succ kj23 =>
      have H := HA.out
      clear HA
      simp only [spec_BatchCut.j2] at H
      have HC37 := Aside0.mk H
      clear H
      go_upto_region 6 with (fail)
      go_cut [43] (fun v43 wc => ∃ (kq : Nat) (x43_36 : Bool), v43 = .bool x43_36 ∧ Aside0 (spec_BatchCut.j3 kq x7_23 x43_36 a0_0 a0_1 a0_2 a0_3 a0_4 l0_5 = some (r1, r2, r3, r4, r5, r6, r7, r8, r9, r10, r11, r12, r13)) ∧ Aside0 (kq ≤ kj23) ∧ Aside0 (wc.heap[gb310]? = some (.cells #[.bool a0_0, .bool a0_1, .int .i64 a0_2, .int .i64 a0_3, .int .i64 a0_4, (.slice A0_5 l0_5.length c0_5)] 28 (0, 0))) ∧ Aside0 (wc.heap[gb311]? = some (.cells #[.bool false, .bool false, .int .i64 0, .int .i64 0, .int .i64 0, (.slice none 0 0)] 28 (0, 0))) ∧ Aside0 (wc.heap[gb312]? = some (.cells #[.bool false, .bool false, .int .i64 0, .int .i64 0, .int .i64 0, (.slice none 0 0)] 28 (0, 0))) ∧ Aside0 (Below w.heap.size w wc))
      case first =>
       have H := HC37.out
       clear HC37
       by_cases c38 : x7_23 = 0
       ·rw [if_pos c38] at H
        have c38b0 : (x7_23 == 0) = true := beq_iff_eq.mpr c38
        have c38b1 : (x7_23 != 0) = false := bne_eq_false_iff_eq.mpr c38
        clear c38
        (first | rw [c38b0] | (simp only [i64_w, i32_w]; rw [c38b0]) | skip)
        have H' := Aside0.mk H
        clear H
        go_wp2
        go_meet
        case rel => exact ⟨_, (true), tr, H', ⟨by have := HJ2.out; have := HJ23.out; first | omega | exact Nat.le_refl _⟩, ⟨tH BK310.out⟩, ⟨tH BK311.out⟩, ⟨tH BK312.out⟩, ⟨zb⟩⟩
       ·rw [if_neg c38] at H
        have c38b0 : (x7_23 == 0) = false := beq_eq_false_iff_ne.mpr c38
        have c38b1 : (x7_23 != 0) = true := bne_iff_ne.mpr c38
        (first | rw [c38b0] | (simp only [i64_w, i32_w]; rw [c38b0]) | skip)
        have H' := Aside0.mk H
        clear H
        have hnb39 := NB310_311.out
        have hnc39 := NB311_310.out
        have hnb40 := NB310_312.out
        have hnc40 := NB312_310.out
        obtain ⟨hcz41_0, hcz41_1, hcz41_2, hcz41_3, hcz41_4, hcz41_5, hfz41_0, hfz41_1, hfz41_2, hfz41_3, hfz41_4, hfz41_5⟩ := cells6 BK310.out
        go_wp2
        go_meet
        case rel => exact ⟨_, ((x7_23 == (l0_5.length : Int))), tr, H', ⟨by have := HJ2.out; have := HJ23.out; first | omega | exact Nat.le_refl _⟩, ⟨tH BK310.out⟩, ⟨tH BK311.out⟩, ⟨tH BK312.out⟩, ⟨zb⟩⟩
      case rest =>
       clear HC37
       try clear c18
       obtain ⟨kq, x43_36, rfl, HA, HJ36, BK310, BK311, BK312, HB⟩ := hcut
       cases kq with
       | zero => exact absurd HA.out (by simp [spec_BatchCut.j3])
       | succ kj36 =>
        have H := HA.out
        clear HA
        simp only [spec_BatchCut.j3] at H
        by_cases c42 : x43_36 = true
        ·subst c42
         rw [if_pos rfl] at H
         simp only [Option.some.injEq, Prod.mk.injEq] at H
         obtain ⟨rfl, rfl, rfl, rfl, rfl, rfl, rfl, rfl, rfl, rfl, rfl, rfl, rfl⟩ := H
         have hnb43 := NB311_310.out
         have hnc43 := NB310_311.out
         have hnb44 := NB311_312.out
         have hnc44 := NB312_311.out
         obtain ⟨hcz45_0, hcz45_1, hcz45_2, hcz45_3, hcz45_4, hcz45_5, hfz45_0, hfz45_1, hfz45_2, hfz45_3, hfz45_4, hfz45_5⟩ := cells6 BK311.out
         have hnb46 := NB312_310.out
         have hnc46 := NB310_312.out
         obtain ⟨hcz47_0, hcz47_1, hcz47_2, hcz47_3, hcz47_4, hcz47_5, hfz47_0, hfz47_1, hfz47_2, hfz47_3, hfz47_4, hfz47_5⟩ := cells6 BK312.out
         go_wp2
         refine bodyPost_ret (results_list (rs := [.cell 4 28, .cell 5 28, .tmp 6]) rfl (by simp) (.cell gb311 28 #[.bool false, .bool false, .int .i64 0, .int .i64 0, .int .i64 0, .slice none 0 0] (0, 0) _ rfl (tP BK311.out) Tryd.underlying28 rfl (by kernel_rfl) (.cell gb312 28 #[.bool false, .bool false, .int .i64 0, .int .i64 0, .int .i64 0, .slice none 0 0] (0, 0) _ rfl (tP BK312.out) Tryd.underlying28 rfl (by kernel_rfl) (.tmp .nil)))) rfl ?_
         exact ⟨_, _, by first | rfl | (simp [errW_none, errW_some] <;> rfl) | (simp [*, errW_none, errW_some] <;> rfl), by first | exact Kd.S_nil _ _ _ _ _ | exact Kd.N_nil _ _ _ _ _ | exact Kd.V_nil _ _ _ _ _ | exact Kd.Q_nil _ _ _ _ _ | exact Kd.R_nil _ _ _ _ _, by first | exact Kd.S_nil _ _ _ _ _ | exact Kd.N_nil _ _ _ _ _ | exact Kd.V_nil _ _ _ _ _ | exact Kd.Q_nil _ _ _ _ _ | exact Kd.R_nil _ _ _ _ _, zb⟩
        ·replace c42 := Bool.eq_false_iff.mpr c42
         subst c42
         rw [if_neg (show ¬ (false = true) by decide)] at H
         by_cases c48 : 0 ≤ x7_23
         ·rw [if_pos c48] at H
          have c48b0 := eq_true c48
          have c48b1 : decide (0 ≤ x7_23) = true := decide_eq_true c48
          clear c48
          by_cases c49 : x7_23 ≤ (l0_5.length : Int)
          ·rw [if_pos c49] at H
           have c49b0 := eq_true c49
           have c49b1 : decide (x7_23 ≤ (l0_5.length : Int)) = true := decide_eq_true c49
           clear c49
           obtain ⟨y315, hy315⟩ : ∃ y_ : List (S62), y_ = (l0_5.take (x7_23 : Int).toNat) := ⟨_, rfl⟩
           replace H : ((spec_l31Free.f kj36 a0_0 y315).bind fun bt319 => ((spec_l31Free.f kj36 a0_0 (l0_5.drop (x7_23 : Int).toNat)).bind fun bt331 => (some (bt319.1, bt319.2.1, bt319.2.2.1, bt319.2.2.2.1, bt319.2.2.2.2.1, bt319.2.2.2.2.2, bt331.1, bt331.2.1, bt331.2.2.1, bt331.2.2.2.1, bt331.2.2.2.2.1, bt331.2.2.2.2.2, true)))) = some (r1, r2, r3, r4, r5, r6, r7, r8, r9, r10, r11, r12, r13) := by first | (rw [hy315]; with_reducible exact H) | (have H2_ := (Option.bind_some _ _).symm.trans H; rw [hy315]; with_reducible exact H2_) | (have H2_ := (Option.bind_some _ _).symm.trans H; with_reducible exact H2_) | with_reducible exact H | (rw [hy315]; exact H) | exact H
           have Ny315 := Aside0.mk hy315
           clear hy315
           replace H := tbe H
           obtain ⟨⟨t319, t320, t321, t322, t323, t324⟩, A50, H⟩ := H
           dsimp only at H
           have c51b0 := eq_true (td : 0 ≤ x7_23)
           have c52b0 := eq_true (td : x7_23 ≤ (l0_5.length : Int))
           obtain ⟨y327, hy327⟩ : ∃ y_ : List (S62), y_ = (l0_5.drop (x7_23 : Int).toNat) := ⟨_, rfl⟩
           replace H : ((spec_l31Free.f kj36 a0_0 y327).bind fun bt331 => (some (t319, t320, t321, t322, t323, t324, bt331.1, bt331.2.1, bt331.2.2.1, bt331.2.2.2.1, bt331.2.2.2.2.1, bt331.2.2.2.2.2, true))) = some (r1, r2, r3, r4, r5, r6, r7, r8, r9, r10, r11, r12, r13) := by first | (rw [hy327]; with_reducible exact H) | (have H2_ := (Option.bind_some _ _).symm.trans H; rw [hy327]; with_reducible exact H2_) | (have H2_ := (Option.bind_some _ _).symm.trans H; with_reducible exact H2_) | with_reducible exact H | (rw [hy327]; exact H) | exact H
           have Ny327 := Aside0.mk hy327
           clear hy327
           replace H := tbe H
           obtain ⟨⟨t331, t332, t333, t334, t335, t336⟩, A53, H⟩ := H
           dsimp only at H
           simp only [Option.some.injEq, Prod.mk.injEq] at H
           obtain ⟨rfl, rfl, rfl, rfl, rfl, rfl, rfl, rfl, rfl, rfl, rfl, rfl, rfl⟩ := H
           try go_wp2
           replace BK310 := Aside0.mk (blk_drew BK310.out)
           replace BK311 := Aside0.mk (blk_drew BK311.out)
           replace BK312 := Aside0.mk (blk_drew BK312.out)
           replace HB := Aside0.mk (below_drew1 HB.out)
           have q55 : (x7_23 : Int) ≤ ((l0_5.length : Int) : Int) := td
           obtain ⟨i055, hi055, _, hsz55, _⟩ := info_parts info62
           have hroom55 : l0_5.length ≤ c0_5 := HC0_5.out
           have hC55 : Kd.C k62 _ A0_5 l0_5.length l0_5 := HR0_5.out
           have hcut55 := cut_to (P := Tryd.prog) 26 62 .i64 Tryd.underlying26 hi055 A0_5 l0_5.length c0_5 x7_23 (td) q55 hroom55
           have hr55 := Kd.C_take (m := (x7_23 : Int).toNat) hC55 (by omega)
           have hy55 : y315.length = (x7_23 : Int).toNat := (by rw [Ny315.out, List.length_take]; omega)
           rw [← Ny315.out] at hr55
           rw [← hy55] at hcut55
           have HR318 := Aside0.mk hr55
           have HC318 := Aside0.mk (show y315.length ≤ c0_5 from by omega)
           clear hr55 hC55 hroom55 hi055 hsz55
           have KY55 := Aside0.mk hy55
           clear hy55
           replace q55 := eq_true q55
           have q56 : (x7_23 : Int) ≤ ((l0_5.length : Int) : Int) := td
           obtain ⟨i056, hi056, _, hsz56, _⟩ := info_parts info62
           have hroom56 : l0_5.length ≤ c0_5 := HC0_5.out
           have hC56 : Kd.C k62 _ A0_5 l0_5.length l0_5 := HR0_5.out
           have q056 : (0 : Int) ≤ (x7_23 : Int) := td
           have hcut56 := cut_from (P := Tryd.prog) 26 62 .i64 Tryd.underlying26 hi056 6 hsz56 A0_5 l0_5.length c0_5 x7_23 q056 q56
           have hr56 := Kd.C_drop (m := (x7_23 : Int).toNat) (c := c0_5) hC56 (by omega) hroom56
           obtain ⟨A56, hA56⟩ : ∃ A_, A_ = (if c0_5 = (x7_23 : Int).toNat then A0_5 else (A0_5 : Option Addr).map (·.add ((x7_23 : Int).toNat * 6))) := ⟨_, rfl⟩
           obtain ⟨c56, hc56⟩ : ∃ c_, c_ = c0_5 - (x7_23 : Int).toNat := ⟨_, rfl⟩
           have hy56 : y327.length = l0_5.length - (x7_23 : Int).toNat := (by rw [Ny327.out, List.length_drop] <;> omega)
           rw [show (l0_5).drop (x7_23 : Int).toNat = y327 from Ny327.out.symm] at hr56
           replace hr56 : Kd.C k62 _ A56 y327.length y327 := (by rw [hA56]; exact hr56)
           rw [← hy56, ← hA56, ← hc56] at hcut56
           have HR330 := Aside0.mk hr56
           have HC330 := Aside0.mk (show y327.length ≤ c56 from by rw [hy56, hc56]; exact Nat.sub_le_sub_right hroom56 _)
           clear hr56 hC56 hroom56 hi056 hsz56 hc56
           have KY56 := Aside0.mk hy56
           have KA56 := Aside0.mk hA56
           clear hy56 hA56
           replace q56 := eq_true q56
           refine start_ (n := 17) (S := fun w' => w'.cell? ⟨gb310, 0, none⟩ = some (.bool a0_0) ∧ w'.cell? ⟨gb310, 1, none⟩ = some (.bool a0_1) ∧ w'.cell? ⟨gb310, 2, none⟩ = some (.int .i64 a0_2) ∧ w'.cell? ⟨gb310, 3, none⟩ = some (.int .i64 a0_3) ∧ w'.cell? ⟨gb310, 4, none⟩ = some (.int .i64 a0_4) ∧ w'.cell? ⟨gb310, 5, none⟩ = some (.slice A0_5 l0_5.length c0_5)) (ds := []) #[false, false, false, false, false, false, false, false, false, false, false, false, false, false, false, false, false] (by kernel_rfl) rfl rfl ⟨(blk_cell BK310.out 0).trans rfl, (blk_cell BK310.out 1).trans rfl, (blk_cell BK310.out 2).trans rfl, (blk_cell BK310.out 3).trans rfl, (blk_cell BK310.out 4).trans rfl, (blk_cell BK310.out 5).trans rfl⟩ (fun hHeld => ?_); refine with_tabW spec_BatchCut.tab8 spec_BatchCut.bits8 (fun HT_ HW_ => ?_)
           generalize wc.drew = w54 at BK310 BK311 BK312 HB HR318 HR330 hHeld ⊢
           refine tpu 0 (some 46) #[true, false, false, false, false, false, false, false, false, false, false, false, false, false, false, false, false] ?_
           refine tpu 2 (some 48) #[true, false, true, false, false, false, false, false, false, false, false, false, false, false, false, false, false] ?_
           refine tpu 4 (some 50) #[true, false, true, false, true, false, false, false, false, false, false, false, false, false, false, false, false] ?_
           refine tpu 7 (some 53) #[true, false, true, false, true, false, false, true, false, false, false, false, false, false, false, false, false] ?_
           refine tpu 9 (some 55) #[true, false, true, false, true, false, false, true, false, true, false, false, false, false, false, false, false] ?_
           refine tpu 11 (some 57) #[true, false, true, false, true, false, false, true, false, true, false, true, false, false, false, false, false] ?_
           refine tta 1 (some 47) #[true, true, true, false, true, false, false, true, false, true, false, true, false, false, false, false, false] hHeld ?_ (hy := by rintro w' ⟨s0, s1, s2, s3, s4, s5⟩; go_simp; with_reducible rfl)
           refine tta 3 (some 49) #[true, true, true, true, true, false, false, true, false, true, false, true, false, false, false, false, false] hHeld ?_ (hy := by rintro w' ⟨s0, s1, s2, s3, s4, s5⟩; go_simp; with_reducible rfl)
           refine tpu 5 (some 51) #[true, true, true, true, true, true, false, true, false, true, false, true, false, false, false, false, false] ?_
           refine tta 8 (some 54) #[true, true, true, true, true, true, false, true, true, true, false, true, false, false, false, false, false] hHeld ?_ (hy := by rintro w' ⟨s0, s1, s2, s3, s4, s5⟩; go_simp; with_reducible rfl)
           refine tta 10 (some 56) #[true, true, true, true, true, true, false, true, true, true, true, true, false, false, false, false, false] hHeld ?_ (hy := by rintro w' ⟨s0, s1, s2, s3, s4, s5⟩; go_simp; with_reducible rfl)
           refine tpu 12 (some 58) #[true, true, true, true, true, true, false, true, true, true, true, true, true, false, false, false, false] ?_
           refine one_ (i := 6) (N := some 52) #[true, true, true, true, true, true, true, true, true, true, true, true, true, false, false, false, false] rfl rfl (one_of HT_.out (by kernel_rfl)) (by decide) (fun K hK => ?_)
           refine goes_ Tryd.func27 (by kernel_rfl) rfl #[.bool a0_0, .slice A0_5 y315.length c0_5] (by rfl) rfl rfl tq ?_
           with_reducible refine (spec_l31Free.calls kj36 a0_0 _ _ y315 t319 t320 t321 t322 t323 t324 _ ?side1 ?side2 A50.out).mono ?_
           (case side1 => exact tC (Kd.C_below HR318.out HB.out))
           (case side2 => exact HC318.out)
           rintro e w57 ⟨v325, rfl, ho0, hb⟩
           refine ⟨_, rfl, ?_⟩
           have HO326 := tSl ho0 HB
           replace BK310 := tBb BK310 hb
           replace BK311 := tBb BK311 hb
           replace BK312 := tBb BK312 hb
           replace HB := tBs HB hb
           (try clear hb)
           (try clear hb2)
           (try clear hk)
           (try clear hi)
           (try clear ho0)
           refine hK.out _ _ ⟨(blk_cell BK310.out 0).trans rfl, (blk_cell BK310.out 1).trans rfl, (blk_cell BK310.out 2).trans rfl, (blk_cell BK310.out 3).trans rfl, (blk_cell BK310.out 4).trans rfl, (blk_cell BK310.out 5).trans rfl⟩ (fun hHeld => ?_)
           clear hK K
           refine tnm (some 52) ?_
           refine one_ (i := 13) (N := some 59) #[true, true, true, true, true, true, true, true, true, true, true, true, true, true, false, false, false] rfl rfl (one_of HT_.out (by kernel_rfl)) (by decide) (fun K hK => ?_)
           refine goes_ Tryd.func27 (by kernel_rfl) rfl #[.bool a0_0, .slice A56 y327.length c56] (by rfl) rfl rfl tq ?_
           with_reducible refine (spec_l31Free.calls kj36 a0_0 _ _ y327 t331 t332 t333 t334 t335 t336 _ ?side1 ?side2 A53.out).mono ?_
           (case side1 => exact tC (Kd.C_below HR330.out HB.out))
           (case side2 => exact HC330.out)
           rintro e w58 ⟨v337, rfl, ho0, hb⟩
           refine ⟨_, rfl, ?_⟩
           have HO338 := Aside0.mk (Kd.S_lower (Kd.S_new' ho0 (Kd.S_lt (tS HO326.out))) (below_size zb))
           replace HO326 := Aside0.mk (Kd.S_elder' (tS HO326.out) (Kd.S_base ho0) hb)
           replace BK310 := tBb BK310 hb
           replace BK311 := tBb BK311 hb
           replace BK312 := tBb BK312 hb
           replace HB := tBs HB hb
           (try clear hb)
           (try clear hb2)
           (try clear hk)
           (try clear hi)
           (try clear ho0)
           obtain ⟨Ao64, co64, eo64⟩ := Kd.S_slice HO326.out
           (first | subst eo64 | (injection eo64 with f1_ f2_ f3_; have f4_ := f1_.symm; have f5_ := f3_.symm; clear f1_ f2_ f3_; subst f4_; subst f5_))
           obtain ⟨Ao71, co71, eo71⟩ := Kd.S_slice HO338.out
           (first | subst eo71 | (injection eo71 with f1_ f2_ f3_; have f4_ := f1_.symm; have f5_ := f3_.symm; clear f1_ f2_ f3_; subst f4_; subst f5_))
           refine hK.out _ _ ⟨(blk_cell BK310.out 0).trans rfl, (blk_cell BK310.out 1).trans rfl, (blk_cell BK310.out 2).trans rfl, (blk_cell BK310.out 3).trans rfl, (blk_cell BK310.out 4).trans rfl, (blk_cell BK310.out 5).trans rfl⟩ (fun hHeld => ?_)
           clear hK K
           refine tnm (some 59) ?_
           refine one_ (i := 14) (N := none) #[true, true, true, true, true, true, true, true, true, true, true, true, true, true, true, false, false] rfl rfl (one_of HT_.out (by kernel_rfl)) (by decide) (fun K hK => ?_)
           have hs59 : w58.cell? ⟨gb311, 0, none⟩ = some (.bool false) := (blk_cell BK311.out 0).trans rfl
           have hfs59 := blk_frozen BK311.out 0
           have hns59_0 := NB310_311.out
           have hns59_2 := NB312_311.out
           have hms59_0 := NB311_310.out
           have hms59_2 := NB311_312.out
           have hs60 : w58.cell? ⟨gb311, 1, none⟩ = some (.bool false) := (blk_cell BK311.out 1).trans rfl
           have hfs60 := blk_frozen BK311.out 1
           have hs61 : w58.cell? ⟨gb311, 2, none⟩ = some (.int .i64 0) := (blk_cell BK311.out 2).trans rfl
           have hfs61 := blk_frozen BK311.out 2
           have hs62 : w58.cell? ⟨gb311, 3, none⟩ = some (.int .i64 0) := (blk_cell BK311.out 3).trans rfl
           have hfs62 := blk_frozen BK311.out 3
           have hs63 : w58.cell? ⟨gb311, 4, none⟩ = some (.int .i64 0) := (blk_cell BK311.out 4).trans rfl
           have hfs63 := blk_frozen BK311.out 4
           have hs65 : w58.cell? ⟨gb311, 5, none⟩ = some (.slice none 0 0) := (blk_cell BK311.out 5).trans rfl
           have hfs65 := blk_frozen BK311.out 5
           refine tsk ?_
           refine hK.out _ _ ⟨(tcg NB310_311.out hHeld.1), (tcg NB310_311.out hHeld.2.1), (tcg NB310_311.out hHeld.2.2.1), (tcg NB310_311.out hHeld.2.2.2.1), (tcg NB310_311.out hHeld.2.2.2.2.1), (tcg NB310_311.out hHeld.2.2.2.2.2)⟩ (fun hHeld => ?_)
           clear hK K
           refine one_ (i := 15) (N := none) #[true, true, true, true, true, true, true, true, true, true, true, true, true, true, true, true, false] rfl rfl (one_of HT_.out (by kernel_rfl)) (by decide) (fun K hK => ?_)
           have hs66 : w58.cell? ⟨gb312, 0, none⟩ = some (.bool false) := (blk_cell BK312.out 0).trans rfl
           have hfs66 := blk_frozen BK312.out 0
           have hns66_0 := NB310_312.out
           have hns66_1 := NB311_312.out
           have hms66_0 := NB312_310.out
           have hms66_1 := NB312_311.out
           have hs67 : w58.cell? ⟨gb312, 1, none⟩ = some (.bool false) := (blk_cell BK312.out 1).trans rfl
           have hfs67 := blk_frozen BK312.out 1
           have hs68 : w58.cell? ⟨gb312, 2, none⟩ = some (.int .i64 0) := (blk_cell BK312.out 2).trans rfl
           have hfs68 := blk_frozen BK312.out 2
           have hs69 : w58.cell? ⟨gb312, 3, none⟩ = some (.int .i64 0) := (blk_cell BK312.out 3).trans rfl
           have hfs69 := blk_frozen BK312.out 3
           have hs70 : w58.cell? ⟨gb312, 4, none⟩ = some (.int .i64 0) := (blk_cell BK312.out 4).trans rfl
           have hfs70 := blk_frozen BK312.out 4
           have hs72 : w58.cell? ⟨gb312, 5, none⟩ = some (.slice none 0 0) := (blk_cell BK312.out 5).trans rfl
           have hfs72 := blk_frozen BK312.out 5
           refine tsk ?_
           refine hK.out _ _ ⟨(tcg NB310_312.out hHeld.1), (tcg NB310_312.out hHeld.2.1), (tcg NB310_312.out hHeld.2.2.1), (tcg NB310_312.out hHeld.2.2.2.1), (tcg NB310_312.out hHeld.2.2.2.2.1), (tcg NB310_312.out hHeld.2.2.2.2.2)⟩ (fun hHeld => ?_)
           clear hK K
           refine tpu 16 (some 6) #[true, true, true, true, true, true, true, true, true, true, true, true, true, true, true, true, true] ?_
           refine done_ (done_of HT_.out (by kernel_rfl)) ?_
           try go_wp2
           refine bodyPost_ret (results_list (rs := [.cell 4 28, .cell 5 28, .tmp 6]) rfl (by simp) (.cell gb311 28 #[.bool t319, .bool t320, .int .i64 t321, .int .i64 t322, .int .i64 t323, .slice Ao64 t324.length co64] (0, 0) _ rfl (tP BK311.out) Tryd.underlying28 rfl (by kernel_rfl) (.cell gb312 28 #[.bool t331, .bool t332, .int .i64 t333, .int .i64 t334, .int .i64 t335, .slice Ao71 t336.length co71] (0, 0) _ rfl (tP BK312.out) Tryd.underlying28 rfl (by kernel_rfl) (.tmp .nil)))) rfl ?_
           exact ⟨_, _, by first | rfl | (simp [errW_none, errW_some] <;> rfl) | (simp [*, errW_none, errW_some] <;> rfl), tSm (Kd.S_types (Kd.S_types HO326.out BK311.out (by decide)) BK312.out (by decide)), tSm (Kd.S_types (Kd.S_types HO338.out BK311.out (by decide)) BK312.out (by decide)), zb⟩
          ·rw [if_neg c49] at H
           exact absurd H (by simp)
         ·rw [if_neg c48] at H
          exact absurd H (by simp)

end Go.Proofs.YtfjkpdhldeopaaaDoor.G

namespace Go.Proofs.YtfjkpdhldeopaaaDoor.G
open Go.RowKit Go.Proofs.YtfjkpdhldeopaaaDoorW.PrintWords Go.Proofs.YtfjkpdhldeopaaaDoorW.PrintLast Go.Proofs.YtfjkpdhldeopaaaDoorW.PrintMore
attribute [local go_sem] max2_int min2_int max_two min_two max_three min_three max_four min_four   -- for this text's walks alone
set_option linter.unusedVariables false
set_option linter.unusedSimpArgs false

def spec_l12Batch.l0 : Nat → List (S62) → Int → Bool → Bool → Int → Int → Int → List (S62) → Option (Bool × Bool × Int × Int × Int × (List (S62)))
 | 0, _, _, _, _, _, _, _, _ => none
 | k + 1, x3, x4, x401000, x401001, x401002, x401003, x401004, x401005 => if x4 < (x401005.length : Int) then (if 0 ≤ x4 then ((spec_l12Copy.f ((rd_T62 x401005 x4).f0) ((rd_T62 x401005 x4).f1) ((rd_T62 x401005 x4).f2) ((rd_T62 x401005 x4).f3) ((rd_T62 x401005 x4).f4) ((rd_T62 x401005 x4).f5)).bind fun bt406 => (if x3.length < 1759218604441 then (spec_l12Batch.l0 k (x3 ++ [(⟨bt406.1, bt406.2.1, bt406.2.2.1, bt406.2.2.2.1, bt406.2.2.2.2.1, bt406.2.2.2.2.2⟩ : S62)]) (wrap64 (x4 + 1)) x401000 x401001 x401002 x401003 x401004 x401005) else (none))) else (none)) else (some (x401000, x401001, x401002, x401003, x401004, x3))
def spec_l12Batch.f (k : Nat) (a0_0 : Bool) (a0_1 : Bool) (a0_2 : Int) (a0_3 : Int) (a0_4 : Int) (l0_5 : List (S62)) : Option (Bool × Bool × Int × Int × Int × (List (S62))) := spec_l12Batch.l0 k (([] : List (S62))) 0 a0_0 a0_1 a0_2 a0_3 a0_4 l0_5
set_option maxHeartbeats 8000000 in
set_option maxRecDepth 100000 in
theorem spec_l12Batch.calls (k : Nat) (a0_0 : Bool) (a0_1 : Bool) (a0_2 : Int) (a0_3 : Int) (a0_4 : Int) (A0_5 : Option Addr) (c0_5 : Nat) (l0_5 : List (S62)) (r1 : Bool) (r2 : Bool) (r3 : Int) (r4 : Int) (r5 : Int) (r6 : List (S62)) (w : World) (hr0_5 : Kd.C k62 w A0_5 l0_5.length l0_5) (hc0_5 : l0_5.length ≤ c0_5) (h : spec_l12Batch.f k a0_0 a0_1 a0_2 a0_3 a0_4 l0_5 = some (r1, r2, r3, r4, r5, r6)) :
  Calls Tryd.prog 37 #[.agg #[.bool a0_0, .bool a0_1, .int .i64 a0_2, .int .i64 a0_3, .int .i64 a0_4, .slice A0_5 l0_5.length c0_5]] w fun e w' => ∃ v5_ : Value, e = .returned (.agg #[.bool r1, .bool r2, .int .i64 r3, .int .i64 r4, .int .i64 r5, v5_]) ∧ Kd.S k62 62 w' w.heap.size (fun _ => True) v5_ r6 ∧ Below w.heap.size w w' := by
 have hu28 := Tryd.underlying28
 have hu62 := Tryd.underlying62
 have HR0_5 := Aside0.mk hr0_5
 have HC0_5 := Aside0.mk hc0_5
 clear hr0_5 hc0_5
 have HB := Aside0.mk (Below.refl w.heap.size w)
 have H : (spec_l12Batch.l0 k (([] : List (S62))) 0 a0_0 a0_1 a0_2 a0_3 a0_4 l0_5) = some (r1, r2, r3, r4, r5, r6) := h
 clear h
 obtain ⟨y402, hy402⟩ : ∃ y_ : List (S62), y_ = (([] : List (S62))) := ⟨_, rfl⟩
 replace H : (spec_l12Batch.l0 k y402 0 a0_0 a0_1 a0_2 a0_3 a0_4 l0_5) = some (r1, r2, r3, r4, r5, r6) := by first | (rw [hy402]; with_reducible exact H) | (have H2_ := (Option.bind_some _ _).symm.trans H; rw [hy402]; with_reducible exact H2_) | (have H2_ := (Option.bind_some _ _).symm.trans H; with_reducible exact H2_) | with_reducible exact H | (rw [hy402]; exact H) | exact H
 have Ny402 := Aside0.mk hy402
 clear hy402
 have H' := Aside0.mk H
 clear H
 go_enter Tryd.func37, Tryd.ntmps37
 go_wp2_with (first | ((with_reducible refine gate_dst (N := 1) rfl ?_); refine box_event ?hg (N := 1) ?hd (cs := #[.bool a0_0, .bool a0_1, .int .i64 a0_2, .int .i64 a0_3, .int .i64 a0_4, .slice A0_5 l0_5.length c0_5]) (t := 28) ?hr ?_; (case hd => rfl); (case hg => rfl); (case hr => first | (go_simp; done) | (go_simp; rfl)); intro gb400 hg w2 hbox hb; have BK400 := Aside0.mk (hbox); have GW400 := tge HB hg; have GE400 := tge HB hg; replace HB := tBs HB hb; clear hb hbox hg) | ((with_reducible refine gate_dst (N := 2) rfl ?_); refine box_event ?hg (N := 2) ?hd (cs := #[.bool false, .bool false, .int .i64 0, .int .i64 0, .int .i64 0, .slice none 0 0]) (t := 28) ?hr ?_; (case hd => rfl); (case hg => rfl); (case hr => first | (go_simp; done) | (go_simp; rfl)); intro gb401 hg w3 hbox hb; have BK401 := Aside0.mk (hbox); have GW401 := tge HB hg; have GE401 := tge HB hg; replace HB := tBs HB hb; have NB400_401 := tlt BK400 hg; have NB401_400 := tgt BK400 hg; replace BK400 := tBb BK400 hb; clear hb hbox hg) | ((with_reducible refine gate_dst (N := 5) rfl ?_); refine Kd.S_lit k62 _ 62 ?hg (N := 5) ?hd (xs := ([] : List (S62))) (inner := []) (ok := fun _ => True) (okp := fun _ => True) ?hr ?hp (fun _ hk => hk) trivial (Below.refl _ _) (Nat.le_refl _) (by simp) ?_; (case hd => rfl); (case hg => rfl); (case hr => first | (go_simp; done) | (go_simp; rfl)); (case hp => exact (Reps.none _ _)); intro v403 w4 ho5 hb hg_ hnew_; clear hg_ hnew_; (first | rw [← Ny402.out] at ho5 | (simp only [Int.reduceToNat] at ho5; rw [← Ny402.out] at ho5)); have HO404 := tSl ho5 HB; replace BK400 := tBb BK400 hb; replace BK401 := tBb BK401 hb; replace HB := tBs HB hb; clear hb ho5))
 go_loopg [3, 4] k (fun kq v3 v4 w' => ∃ (x3_1 : List (S62)) (x4_1 : Int), v4 = .int .i64 x4_1 ∧ Aside0 (spec_l12Batch.l0 kq x3_1 x4_1 a0_0 a0_1 a0_2 a0_3 a0_4 l0_5 = some (r1, r2, r3, r4, r5, r6)) ∧ Aside0 (kq ≤ k) ∧ Aside0 (Kd.S k62 62 w' w.heap.size (fun _ => True) v3 x3_1) ∧ Aside0 (w'.heap[gb400]? = some (.cells #[.bool a0_0, .bool a0_1, .int .i64 a0_2, .int .i64 a0_3, .int .i64 a0_4, (.slice A0_5 l0_5.length c0_5)] 28 (0, 0))) ∧ Aside0 (w'.heap[gb401]? = some (.cells #[.bool false, .bool false, .int .i64 0, .int .i64 0, .int .i64 0, (.slice none 0 0)] 28 (0, 0))) ∧ Aside0 (Below w.heap.size w w'))
 case atStart => exact ⟨(y402), (0), tr, H', ⟨Nat.le_refl _⟩, ⟨tS HO404.out⟩, ⟨tH BK400.out⟩, ⟨tH BK401.out⟩, ⟨zb⟩⟩
 case round =>
  clear H'
  obtain ⟨x3_1, x4_1, rfl, HA, HK1, HO_3, BK400, BK401, HB⟩ := hrel
  cases gk with
  | zero => exact absurd HA.out (by simp [spec_l12Batch.l0])
  | succ k1 =>
   have H := HA.out
   clear HA
   simp only [spec_l12Batch.l0] at H
   by_cases c6 : x4_1 < (l0_5.length : Int)
   ·rw [if_pos c6] at H
    have c6b0 : decide (x4_1 < (l0_5.length : Int)) = true := decide_eq_true c6
    clear c6
    by_cases c7 : 0 ≤ x4_1
    ·rw [if_pos c7] at H
     have c7b0 : decide (0 ≤ x4_1) = true := decide_eq_true c7
     clear c7
     replace H := tbe H
     obtain ⟨⟨t406, t407, t408, t409, t412, t413⟩, A8, H⟩ := H
     dsimp only at H
     by_cases c9 : x3_1.length < 1759218604441
     ·rw [if_pos c9] at H
      have LMc9 := Aside0.mk c9
      clear c9
      obtain ⟨y416, hy416⟩ : ∃ y_ : List (S62), y_ = (x3_1 ++ [(⟨t406, t407, t408, t409, t412, t413⟩ : S62)]) := ⟨_, rfl⟩
      replace H : (spec_l12Batch.l0 k1 y416 (wrap64 (x4_1 + 1)) a0_0 a0_1 a0_2 a0_3 a0_4 l0_5) = some (r1, r2, r3, r4, r5, r6) := by first | (rw [hy416]; with_reducible exact H) | (have H2_ := (Option.bind_some _ _).symm.trans H; rw [hy416]; with_reducible exact H2_) | (have H2_ := (Option.bind_some _ _).symm.trans H; with_reducible exact H2_) | with_reducible exact H | (rw [hy416]; exact H) | exact H
      have Ny416 := Aside0.mk hy416
      clear hy416
      have H' := Aside0.mk H
      clear H
      have hnb10 := NB400_401.out
      have hnc10 := NB401_400.out
      obtain ⟨hcz11_0, hcz11_1, hcz11_2, hcz11_3, hcz11_4, hcz11_5, hfz11_0, hfz11_1, hfz11_2, hfz11_3, hfz11_4, hfz11_5⟩ := cells6 BK400.out
      have p405 : 0 ≤ (x4_1 : Int) := td
      have q405 : x4_1 < (l0_5.length : Int) := td
      obtain ⟨ad405, A405_3, c405_3, A405_5, c405_5, e405, hx405_0, hx405_1, hx405_2, hx405_3, hx405_4, hx405_5, hl405_3, hi405_3, hl405_5, hi405_5⟩ := at_T62 HR0_5.out x4_1 p405 q405
      cases e405
      replace hx405_0 := tcl HB hx405_0
      replace hx405_1 := tcl HB hx405_1
      replace hx405_2 := tcl HB hx405_2
      replace hx405_3 := tcl HB hx405_3
      replace hx405_4 := tcl HB hx405_4
      replace hx405_5 := tcl HB hx405_5
      have HR405_3 := Aside0.mk hi405_3
      have HC405_3 := Aside0.mk hl405_3
      clear hi405_3 hl405_3
      have HR405_5 := Aside0.mk hi405_5
      have HC405_5 := Aside0.mk hl405_5
      clear hi405_5 hl405_5
      replace p405 := eq_true p405
      replace q405 := eq_true q405
      go_wp2_with (first | ((with_reducible refine gate_callee (f := 45) rfl ?_); refine goesL_ (some 19) rfl rfl Tryd.func45 (by kernel_rfl) rfl #[.agg #[.int .i64 ((rd_T62 l0_5 x4_1).f0), .int .i64 ((rd_T62 l0_5 x4_1).f1), .bool ((rd_T62 l0_5 x4_1).f2), .slice A405_3 ((rd_T62 l0_5 x4_1).f3).length c405_3, .bool ((rd_T62 l0_5 x4_1).f4), .slice A405_5 ((rd_T62 l0_5 x4_1).f5).length c405_5]] rfl tq ?_; (with_reducible refine (spec_l12Copy.calls ((rd_T62 l0_5 x4_1).f0) ((rd_T62 l0_5 x4_1).f1) ((rd_T62 l0_5 x4_1).f2) _ _ ((rd_T62 l0_5 x4_1).f3) ((rd_T62 l0_5 x4_1).f4) _ _ ((rd_T62 l0_5 x4_1).f5) t406 t407 t408 t409 t412 t413 _ ?side1 ?side2 ?side3 ?side4 A8.out).mono ?_); (case side1 => exact tC (Kd.C_below HR405_3.out HB.out)); (case side2 => exact HC405_3.out); (case side3 => exact tC (Kd.C_below HR405_5.out HB.out)); (case side4 => exact HC405_5.out); rintro e w12 ⟨v410, v414, rfl, ho0, ho1, hb⟩; have u_v410 := tsv Tryd.prog v410 ho0; have u_v414 := tsv Tryd.prog v414 ho1; refine ⟨_, rfl, ?_⟩; replace HO_3 := Aside0.mk (Kd.S_mono (Kd.S_told (Kd.S_told (Kd.S_old (tS HO_3.out) hb) (Kd.R_base ho0)) (Kd.R_base ho1)) (fun _ h_ => h_.1)); have HO411 := tRl ho0 HB; have HO415 := tRl ho1 HB; replace BK400 := tBb BK400 hb; replace BK401 := tBb BK401 hb; replace HB := tBs HB hb; (try clear hb); (try clear hb2); (try clear hk); (try clear hi); (try clear ho0); (try clear ho1); obtain ⟨Ao14, co14, eo14⟩ := Kd.R_slice HO411.out; subst eo14; obtain ⟨Ao15, co15, eo15⟩ := Kd.R_slice HO415.out; subst eo15) | ((with_reducible refine gate_builtin (b := .append) (xs := #[.tmp 13, .tmp 20]) rfl ?_); at_builtin; refine Kd.S_append k62 (w0 := w) w.heap.size rfl (.tmp 13) (.tmp 20) 26 62 (.agg #[(.int .i64 0), (.int .i64 0), (.bool false), (.slice none 0 0), (.bool false), (.slice none 0 0)]) 80 rfl Tryd.underlying26 info62 rfl (by decide) (by omega) u3 x3_1 (⟨t406, t407, t408, t409, t412, t413⟩ : S62) [.int .i64 t406, .int .i64 t407, .bool t408, .slice Ao14 t409.length co14, .bool t412, .slice Ao15 t413.length co15] (fun _ => True) (fun k_ => some k_ = (.slice Ao14 t409.length co14 : Value).ownBlock ∨ some k_ = (.slice Ao15 t413.length co15 : Value).ownBlock) rfl rfl ?aP (fun k_ hk_ => hk_.elim (fun h_ => ((Kd.R_mono (ok' := fun k_ => ((fun _ => True)) k_ ∧ some k_ ≠ (u3 : Value).ownBlock) (Kd.R_apart' (HO411.out) (Kd.S_typed HO_3.out) (by decide)) (fun k_ hk => ⟨trivial, hk.2⟩))).1 k_ h_.symm) (fun h_ => ((Kd.R_mono (ok' := fun k_ => ((fun _ => True)) k_ ∧ some k_ ≠ (u3 : Value).ownBlock) (Kd.R_apart' (HO415.out) (Kd.S_typed HO_3.out) (by decide)) (fun k_ hk => ⟨trivial, hk.2⟩))).1 k_ h_.symm)) ?aF ?aO ?aB ?aS ?aL ?_; (case aP => exact k62_mkM _ _ _ (⟨t406, t407, t408, t409, t412, t413⟩ : S62) (Kd.R_mono (Kd.R_tight rfl (Kd.R_mono (ok' := fun k_ => ((fun _ => True)) k_ ∧ some k_ ≠ (u3 : Value).ownBlock) (Kd.R_apart' (HO411.out) (Kd.S_typed HO_3.out) (by decide)) (fun k_ hk => ⟨trivial, hk.2⟩))) (fun _ h_ => Or.inl h_)) (Kd.R_mono (Kd.R_tight rfl (Kd.R_mono (ok' := fun k_ => ((fun _ => True)) k_ ∧ some k_ ≠ (u3 : Value).ownBlock) (Kd.R_apart' (HO415.out) (Kd.S_typed HO_3.out) (by decide)) (fun k_ hk => ⟨trivial, hk.2⟩))) (fun _ h_ => Or.inr (h_)))); (case aB => exact zb); (case aF => exact (fun _ _ => trivial)); (case aO => exact (tSm HO_3.out)); (case aS => exact (below_size zb)); (case aL => have := LMc9.out; omega); intro v417 w13 ho hb hg hat; rw [← Ny416.out] at ho; replace BK400 := Aside0.mk (blk_grown (tH BK400.out) hg (Kd.S_ne HO_3.out BK400.out (by decide))); replace BK401 := Aside0.mk (blk_grown (tH BK401.out) hg (Kd.S_ne HO_3.out BK401.out (by decide))); replace HB := Aside0.mk (hb); have HO418 := Aside0.mk (ho); clear HO_3 HO411 HO415; clear ho hb hg hat))
      go_roundg k1
      case measure => have := HK1.out; omega
      case rel => exact ⟨(y416), (wrap64 (x4_1 + 1)), tr, H', ⟨by have := HK1.out; omega⟩, ⟨tS HO418.out⟩, ⟨tH BK400.out⟩, ⟨tH BK401.out⟩, ⟨zb⟩⟩
     ·rw [if_neg c9] at H
      exact absurd H (by simp)
    ·rw [if_neg c7] at H
     exact absurd H (by simp)
   ·rw [if_neg c6] at H
    have c6b0 : decide (x4_1 < (l0_5.length : Int)) = false := decide_eq_false c6
    clear c6
    simp only [Option.some.injEq, Prod.mk.injEq] at H
    obtain ⟨rfl, rfl, rfl, rfl, rfl, rfl⟩ := H
    have hnb16 := NB400_401.out
    have hnc16 := NB401_400.out
    obtain ⟨hcz17_0, hcz17_1, hcz17_2, hcz17_3, hcz17_4, hcz17_5, hfz17_0, hfz17_1, hfz17_2, hfz17_3, hfz17_4, hfz17_5⟩ := cells6 BK400.out
    obtain ⟨Ao18, co18, eo18⟩ := Kd.S_slice HO_3.out
    subst eo18
    obtain ⟨hcz19_0, hcz19_1, hcz19_2, hcz19_3, hcz19_4, hcz19_5, hfz19_0, hfz19_1, hfz19_2, hfz19_3, hfz19_4, hfz19_5⟩ := cells6 BK401.out
    go_wp2
    refine bodyPost_ret (results_cell_row rfl _ _ gb401 28 #[.bool a0_0, .bool a0_1, .int .i64 a0_2, .int .i64 a0_3, .int .i64 a0_4, .slice Ao18 x3_1.length co18] (0, 0) _ rfl (tP BK401.out) Tryd.underlying28 rfl (by kernel_rfl)) rfl ?_
    exact ⟨_, by first | rfl | (simp [errW_none, errW_some] <;> rfl) | (simp [*, errW_none, errW_some] <;> rfl), tSm (Kd.S_types (Kd.S_types HO_3.out BK400.out (by decide)) BK401.out (by decide)), zb⟩

def spec_LogCut.l0 : Nat → List (S28) → Int → List (S28) → Int → Option ((List (S28)) × Bool)
 | 0, _, _, _, _ => none
 | k + 1, x0, x1, x6, x7 => if x7 < (x0.length : Int) then (if 0 ≤ x7 then ((spec_l12Last.f ((rd_T28 x0 x7).f0) ((rd_T28 x0 x7).f1) ((rd_T28 x0 x7).f2) ((rd_T28 x0 x7).f3) ((rd_T28 x0 x7).f4) ((rd_T28 x0 x7).f5)).bind fun t424 => (if t424 < x1 then ((spec_l12Batch.f k ((rd_T28 x0 x7).f0) ((rd_T28 x0 x7).f1) ((rd_T28 x0 x7).f2) ((rd_T28 x0 x7).f3) ((rd_T28 x0 x7).f4) ((rd_T28 x0 x7).f5)).bind fun bt426 => (if x6.length < 2513169434916 then (spec_LogCut.l0 k x0 x1 (x6 ++ [(⟨bt426.1, bt426.2.1, bt426.2.2.1, bt426.2.2.2.1, bt426.2.2.2.2.1, bt426.2.2.2.2.2⟩ : S28)]) (wrap64 (x7 + 1))) else (none))) else (if 0 < (((rd_T28 x0 x7).f5).length : Int) then (if ((rd_T62 ((rd_T28 x0 x7).f5) 0).f0) < x1 then ((spec_BatchCut.f k ((rd_T28 x0 x7).f0) ((rd_T28 x0 x7).f1) ((rd_T28 x0 x7).f2) ((rd_T28 x0 x7).f3) ((rd_T28 x0 x7).f4) ((rd_T28 x0 x7).f5) x1).bind fun bt440 => (if bt440.2.2.2.2.2.2.2.2.2.2.2.2 = true then (if x6.length < 2513169434916 then (spec_LogCut.l0 k x0 x1 (x6 ++ [(⟨bt440.1, bt440.2.1, bt440.2.2.1, bt440.2.2.2.1, bt440.2.2.2.2.1, bt440.2.2.2.2.2.1⟩ : S28)]) (wrap64 (x7 + 1))) else (none)) else (some ((([] : List (S28))), false)))) else (spec_LogCut.l0 k x0 x1 x6 (wrap64 (x7 + 1)))) else (none)))) else (none)) else (some (x6, true))
def spec_LogCut.f (k : Nat) (l0 : List (S28)) (a1 : Int) : Option ((List (S28)) × Bool) := (some (([] : List (S28)) : List (S28))).bind fun y419 => ((spec_LogValid.f k l0).bind fun t422 => (if t422 = true then (spec_LogCut.l0 k l0 a1 y419 0) else (some (y419, false))))
set_option maxHeartbeats 8000000 in
set_option maxRecDepth 100000 in
theorem spec_LogCut.calls (k : Nat) (A0 : Option Addr) (c0 : Nat) (l0 : List (S28)) (a1 : Int) (r1 : List (S28)) (r2 : Bool) (w : World) (hr0 : Kd.C k28 w A0 l0.length l0) (hc0 : l0.length ≤ c0) (h : spec_LogCut.f k l0 a1 = some (r1, r2)) :
  Calls Tryd.prog 17 #[.slice A0 l0.length c0, .int .i64 a1] w fun e w' => ∃ v0_ : Value, e = .returned (.tuple #[v0_, .bool r2]) ∧ Kd.R k28 28 w' w.heap.size (fun _ => True) v0_ r1 ∧ Below w.heap.size w w' := by
 have hu28 := Tryd.underlying28
 have HR0 := Aside0.mk hr0
 have HC0 := Aside0.mk hc0
 clear hr0 hc0
 have HB := Aside0.mk (Below.refl w.heap.size w)
 have H : ((some (([] : List (S28)) : List (S28))).bind fun y419 => ((spec_LogValid.f k l0).bind fun t422 => (if t422 = true then (spec_LogCut.l0 k l0 a1 y419 0) else (some (y419, false))))) = some (r1, r2) := h
 clear h
 obtain ⟨y419, hy419⟩ : ∃ y_ : List (S28), y_ = (([] : List (S28))) := ⟨_, rfl⟩
 replace H : ((spec_LogValid.f k l0).bind fun t422 => (if t422 = true then (spec_LogCut.l0 k l0 a1 y419 0) else (some (y419, false)))) = some (r1, r2) := by first | (rw [hy419]; with_reducible exact H) | (have H2_ := (Option.bind_some _ _).symm.trans H; rw [hy419]; with_reducible exact H2_) | (have H2_ := (Option.bind_some _ _).symm.trans H; with_reducible exact H2_) | with_reducible exact H | (rw [hy419]; exact H) | exact H
 have Ny419 := Aside0.mk hy419
 clear hy419
 replace H := tbe H
 obtain ⟨t422, A3, H⟩ := H
 by_cases c4 : t422 = true
 ·subst c4
  rw [if_pos rfl] at H
  have H' := Aside0.mk H
  clear H
  go_enter Tryd.func17, Tryd.ntmps17
  go_wp2_with (first | ((with_reducible refine gate_dst (N := 11) rfl ?_); refine Kd.R_lit k28 _ 28 ?hg (N := 11) ?hd (xs := ([] : List (S28))) (inner := []) (ok := fun _ => True) (okp := fun _ => True) ?hr ?hp (fun _ hk => hk) trivial (Below.refl _ _) (Nat.le_refl _) (by simp) ?_; (case hd => rfl); (case hg => rfl); (case hr => first | (go_simp; done) | (go_simp; rfl)); (case hp => exact (Reps.none _ _)); intro v420 w5 ho6 hb hg_ hnew_; clear hg_ hnew_; (first | rw [← Ny419.out] at ho6 | (simp only [Int.reduceToNat] at ho6; rw [← Ny419.out] at ho6)); have HO421 := tRl ho6 HB; replace HB := tBs HB hb; clear hb ho6) | ((with_reducible refine gate_callee (f := 35) rfl ?_); refine goesL_ (some 13) rfl rfl Tryd.func35 (by kernel_rfl) rfl #[.slice A0 l0.length c0] rfl tq ?_; (with_reducible refine (spec_LogValid.calls k _ _ l0 true _ ?side1 ?side2 A3.out).mono ?_); (case side1 => exact tC (Kd.C_below HR0.out HB.out)); (case side2 => exact HC0.out); rintro e w7 ⟨rfl, hb⟩; refine ⟨_, rfl, ?_⟩; replace HO421 := tRb HO421 hb; replace HB := tBs HB hb; (try clear hb); (try clear hb2); (try clear hk); (try clear hi)))
  go_loopg [6, 7] k (fun kq v6 v7 w' => ∃ (x6_1 : List (S28)) (x7_1 : Int), v7 = .int .i64 x7_1 ∧ Aside0 (spec_LogCut.l0 kq l0 a1 x6_1 x7_1 = some (r1, r2)) ∧ Aside0 (kq ≤ k) ∧ Aside0 (Kd.R k28 28 w' w.heap.size (fun _ => True) v6 x6_1) ∧ Aside0 (Below w.heap.size w w'))
  case atStart => exact ⟨(y419), (0), tr, H', ⟨Nat.le_refl _⟩, ⟨tR HO421.out⟩, ⟨zb⟩⟩
  case round =>
   clear H'
   try clear c4
   obtain ⟨x6_1, x7_1, rfl, HA, HK1, HO_6, HB⟩ := hrel
   cases gk with
   | zero => exact absurd HA.out (by simp [spec_LogCut.l0])
   | succ k1 =>
    have H := HA.out
    clear HA
    simp only [spec_LogCut.l0] at H
    by_cases c8 : x7_1 < (l0.length : Int)
    ·rw [if_pos c8] at H
     have c8b0 : decide (x7_1 < (l0.length : Int)) = true := decide_eq_true c8
     clear c8
     by_cases c9 : 0 ≤ x7_1
     ·rw [if_pos c9] at H
      have c9b0 : decide (0 ≤ x7_1) = true := decide_eq_true c9
      clear c9
      replace H := tbe H
      obtain ⟨t424, A10, H⟩ := H
      by_cases c11 : t424 < a1
      ·rw [if_pos c11] at H
       have c11b0 : decide (t424 < a1) = true := decide_eq_true c11
       clear c11
       replace H := tbe H
       obtain ⟨⟨t426, t427, t428, t429, t430, t431⟩, A12, H⟩ := H
       dsimp only at H
       by_cases c13 : x6_1.length < 2513169434916
       ·rw [if_pos c13] at H
        have LMc13 := Aside0.mk c13
        clear c13
        obtain ⟨y434, hy434⟩ : ∃ y_ : List (S28), y_ = (x6_1 ++ [(⟨t426, t427, t428, t429, t430, t431⟩ : S28)]) := ⟨_, rfl⟩
        replace H : (spec_LogCut.l0 k1 l0 a1 y434 (wrap64 (x7_1 + 1))) = some (r1, r2) := by first | (rw [hy434]; with_reducible exact H) | (have H2_ := (Option.bind_some _ _).symm.trans H; rw [hy434]; with_reducible exact H2_) | (have H2_ := (Option.bind_some _ _).symm.trans H; with_reducible exact H2_) | with_reducible exact H | (rw [hy434]; exact H) | exact H
        have Ny434 := Aside0.mk hy434
        clear hy434
        have H' := Aside0.mk H
        clear H
        have p423 : 0 ≤ (x7_1 : Int) := td
        have q423 : x7_1 < (l0.length : Int) := td
        obtain ⟨ad423, A423_5, c423_5, e423, hx423_0, hx423_1, hx423_2, hx423_3, hx423_4, hx423_5, hl423_5, hi423_5⟩ := at_T28 HR0.out x7_1 p423 q423
        cases e423
        replace hx423_0 := tcl HB hx423_0
        replace hx423_1 := tcl HB hx423_1
        replace hx423_2 := tcl HB hx423_2
        replace hx423_3 := tcl HB hx423_3
        replace hx423_4 := tcl HB hx423_4
        replace hx423_5 := tcl HB hx423_5
        have HR423_5 := Aside0.mk hi423_5
        have HC423_5 := Aside0.mk hl423_5
        clear hi423_5 hl423_5
        replace p423 := eq_true p423
        replace q423 := eq_true q423
        go_wp2_with (first | ((with_reducible refine gate_callee (f := 36) rfl ?_); refine goesL_ (some 26) rfl rfl Tryd.func36 (by kernel_rfl) rfl #[.agg #[.bool ((rd_T28 l0 x7_1).f0), .bool ((rd_T28 l0 x7_1).f1), .int .i64 ((rd_T28 l0 x7_1).f2), .int .i64 ((rd_T28 l0 x7_1).f3), .int .i64 ((rd_T28 l0 x7_1).f4), .slice A423_5 ((rd_T28 l0 x7_1).f5).length c423_5]] rfl tq ?_; (with_reducible refine (spec_l12Last.calls ((rd_T28 l0 x7_1).f0) ((rd_T28 l0 x7_1).f1) ((rd_T28 l0 x7_1).f2) ((rd_T28 l0 x7_1).f3) ((rd_T28 l0 x7_1).f4) _ _ ((rd_T28 l0 x7_1).f5) t424 _ ?side1 ?side2 A10.out).mono ?_); (case side1 => exact tC (Kd.C_below HR423_5.out HB.out)); (case side2 => exact HC423_5.out); rintro e w14 ⟨rfl, hb⟩; refine ⟨_, rfl, ?_⟩; replace HO_6 := tRb HO_6 hb; replace HB := tBs HB hb; (try clear hb); (try clear hb2); (try clear hk); (try clear hi); have p425 : 0 ≤ (x7_1 : Int) := td; have q425 : x7_1 < (l0.length : Int) := td; obtain ⟨ad425, A425_5, c425_5, e425, hx425_0, hx425_1, hx425_2, hx425_3, hx425_4, hx425_5, hl425_5, hi425_5⟩ := at_T28 HR0.out x7_1 p425 q425; obtain rfl : ad423 = ad425 := (by injection e425); replace hx425_0 := tcl HB hx425_0; replace hx425_1 := tcl HB hx425_1; replace hx425_2 := tcl HB hx425_2; replace hx425_3 := tcl HB hx425_3; replace hx425_4 := tcl HB hx425_4; replace hx425_5 := tcl HB hx425_5; have HR425_5 := Aside0.mk hi425_5; have HC425_5 := Aside0.mk hl425_5; clear hi425_5 hl425_5; replace p425 := eq_true p425; replace q425 := eq_true q425) | ((with_reducible refine gate_callee (f := 37) rfl ?_); refine goesL_ (some 34) rfl rfl Tryd.func37 (by kernel_rfl) rfl #[.agg #[.bool ((rd_T28 l0 x7_1).f0), .bool ((rd_T28 l0 x7_1).f1), .int .i64 ((rd_T28 l0 x7_1).f2), .int .i64 ((rd_T28 l0 x7_1).f3), .int .i64 ((rd_T28 l0 x7_1).f4), .slice A425_5 ((rd_T28 l0 x7_1).f5).length c425_5]] rfl tq ?_; (with_reducible refine (spec_l12Batch.calls k1 ((rd_T28 l0 x7_1).f0) ((rd_T28 l0 x7_1).f1) ((rd_T28 l0 x7_1).f2) ((rd_T28 l0 x7_1).f3) ((rd_T28 l0 x7_1).f4) _ _ ((rd_T28 l0 x7_1).f5) t426 t427 t428 t429 t430 t431 _ ?side1 ?side2 A12.out).mono ?_); (case side1 => exact tC (Kd.C_below HR425_5.out HB.out)); (case side2 => exact HC425_5.out); rintro e w15 ⟨v432, rfl, ho0, hb⟩; have u_v432 := tsv Tryd.prog v432 ho0; refine ⟨_, rfl, ?_⟩; replace HO_6 := Aside0.mk (Kd.R_elder' (tR HO_6.out) (Kd.S_base ho0) hb); have HO433 := tSl ho0 HB; replace HB := tBs HB hb; (try clear hb); (try clear hb2); (try clear hk); (try clear hi); (try clear ho0); obtain ⟨Ao17, co17, eo17⟩ := Kd.S_slice HO433.out; subst eo17) | ((with_reducible refine gate_builtin (b := .append) (xs := #[.tmp 29, .tmp 35]) rfl ?_); at_builtin; refine Kd.R_append k28 (w0 := w) w.heap.size rfl (.tmp 29) (.tmp 35) 40 28 (.agg #[(.bool false), (.bool false), (.int .i64 0), (.int .i64 0), (.int .i64 0), (.slice none 0 0)]) 56 rfl Tryd.underlying40 info28 rfl (by decide) (by omega) u6 x6_1 (⟨t426, t427, t428, t429, t430, t431⟩ : S28) [.bool t426, .bool t427, .int .i64 t428, .int .i64 t429, .int .i64 t430, .slice Ao17 t431.length co17] (fun _ => True) (fun k_ => ((fun _ => True)) k_ ∧ some k_ ≠ (u6 : Value).ownBlock) rfl rfl ?aP (fun _ hk => hk) ?aF ?aO ?aB ?aS ?aL ?_; (case aP => exact k28_mkM _ _ _ (⟨t426, t427, t428, t429, t430, t431⟩ : S28) (Kd.R_mono (Kd.R_apart' ((Kd.S_R HO433.out)) (Kd.R_typed HO_6.out) (by decide)) (fun k_ hk => ⟨trivial, hk.2⟩))); (case aB => exact zb); (case aF => exact (fun _ _ => trivial)); (case aO => exact (tRm HO_6.out)); (case aS => exact (below_size zb)); (case aL => have := LMc13.out; omega); intro v435 w16 ho hb hg hat; rw [← Ny434.out] at ho; replace HB := Aside0.mk (hb); have HO436 := Aside0.mk (ho); clear HO_6 HO433; clear ho hb hg hat))
        go_roundg k1
        case measure => have := HK1.out; omega
        case rel => exact ⟨(y434), (wrap64 (x7_1 + 1)), tr, H', ⟨by have := HK1.out; omega⟩, ⟨tR HO436.out⟩, ⟨zb⟩⟩
       ·rw [if_neg c13] at H
        exact absurd H (by simp)
      ·rw [if_neg c11] at H
       have c11b0 : decide (t424 < a1) = false := decide_eq_false c11
       clear c11
       by_cases c18 : 0 < (((rd_T28 l0 x7_1).f5).length : Int)
       ·rw [if_pos c18] at H
        have c18b0 : decide (0 < (((rd_T28 l0 x7_1).f5).length : Int)) = true := decide_eq_true c18
        have c18b1 : decide (0 < ((rd_T28 l0 x7_1).f5).length) = true := decide_eq_true (by omega)
        clear c18
        by_cases c19 : ((rd_T62 ((rd_T28 l0 x7_1).f5) 0).f0) < a1
        ·rw [if_pos c19] at H
         have c19b0 : decide (((rd_T62 ((rd_T28 l0 x7_1).f5) 0).f0) < a1) = true := decide_eq_true c19
         clear c19
         replace H := tbe H
         obtain ⟨⟨t440, t441, t442, t443, t444, t445, t448, t449, t450, t451, t452, t453, t456⟩, A20, H⟩ := H
         dsimp only at H
         by_cases c21 : t456 = true
         ·subst c21
          rw [if_pos rfl] at H
          by_cases c22 : x6_1.length < 2513169434916
          ·rw [if_pos c22] at H
           have LMc22 := Aside0.mk c22
           clear c22
           obtain ⟨y459, hy459⟩ : ∃ y_ : List (S28), y_ = (x6_1 ++ [(⟨t440, t441, t442, t443, t444, t445⟩ : S28)]) := ⟨_, rfl⟩
           replace H : (spec_LogCut.l0 k1 l0 a1 y459 (wrap64 (x7_1 + 1))) = some (r1, r2) := by first | (rw [hy459]; with_reducible exact H) | (have H2_ := (Option.bind_some _ _).symm.trans H; rw [hy459]; with_reducible exact H2_) | (have H2_ := (Option.bind_some _ _).symm.trans H; with_reducible exact H2_) | with_reducible exact H | (rw [hy459]; exact H) | exact H
           have Ny459 := Aside0.mk hy459
           clear hy459
           have H' := Aside0.mk H
           clear H
           have p423 : 0 ≤ (x7_1 : Int) := td
           have q423 : x7_1 < (l0.length : Int) := td
           obtain ⟨ad423, A423_5, c423_5, e423, hx423_0, hx423_1, hx423_2, hx423_3, hx423_4, hx423_5, hl423_5, hi423_5⟩ := at_T28 HR0.out x7_1 p423 q423
           cases e423
           replace hx423_0 := tcl HB hx423_0
           replace hx423_1 := tcl HB hx423_1
           replace hx423_2 := tcl HB hx423_2
           replace hx423_3 := tcl HB hx423_3
           replace hx423_4 := tcl HB hx423_4
           replace hx423_5 := tcl HB hx423_5
           have HR423_5 := Aside0.mk hi423_5
           have HC423_5 := Aside0.mk hl423_5
           clear hi423_5 hl423_5
           replace p423 := eq_true p423
           replace q423 := eq_true q423
           go_wp2_with (first | ((with_reducible refine gate_callee (f := 36) rfl ?_); refine goesL_ (some 26) rfl rfl Tryd.func36 (by kernel_rfl) rfl #[.agg #[.bool ((rd_T28 l0 x7_1).f0), .bool ((rd_T28 l0 x7_1).f1), .int .i64 ((rd_T28 l0 x7_1).f2), .int .i64 ((rd_T28 l0 x7_1).f3), .int .i64 ((rd_T28 l0 x7_1).f4), .slice A423_5 ((rd_T28 l0 x7_1).f5).length c423_5]] rfl tq ?_; (with_reducible refine (spec_l12Last.calls ((rd_T28 l0 x7_1).f0) ((rd_T28 l0 x7_1).f1) ((rd_T28 l0 x7_1).f2) ((rd_T28 l0 x7_1).f3) ((rd_T28 l0 x7_1).f4) _ _ ((rd_T28 l0 x7_1).f5) t424 _ ?side1 ?side2 A10.out).mono ?_); (case side1 => exact tC (Kd.C_below HR423_5.out HB.out)); (case side2 => exact HC423_5.out); rintro e w23 ⟨rfl, hb⟩; refine ⟨_, rfl, ?_⟩; replace HO_6 := tRb HO_6 hb; replace HB := tBs HB hb; (try clear hb); (try clear hb2); (try clear hk); (try clear hi); have p437 : 0 ≤ (x7_1 : Int) := td; have q437 : x7_1 < (l0.length : Int) := td; obtain ⟨ad437, A437_5, c437_5, e437, hx437_0, hx437_1, hx437_2, hx437_3, hx437_4, hx437_5, hl437_5, hi437_5⟩ := at_T28 HR0.out x7_1 p437 q437; obtain rfl : ad423 = ad437 := (by injection e437); replace hx437_0 := tcl HB hx437_0; replace hx437_1 := tcl HB hx437_1; replace hx437_2 := tcl HB hx437_2; replace hx437_3 := tcl HB hx437_3; replace hx437_4 := tcl HB hx437_4; replace hx437_5 := tcl HB hx437_5; have HR437_5 := Aside0.mk hi437_5; have HC437_5 := Aside0.mk hl437_5; clear hi437_5 hl437_5; replace p437 := eq_true p437; replace q437 := eq_true q437; have p438 : 0 ≤ (0 : Int) := (by omega); have q438 : 0 < (((rd_T28 l0 x7_1).f5).length : Int) := td; obtain ⟨ad438, A438_3, c438_3, A438_5, c438_5, e438, hx438_0, hx438_1, hx438_2, hx438_3, hx438_4, hx438_5, hl438_3, hi438_3, hl438_5, hi438_5⟩ := at_T62 HR437_5.out 0 p438 q438; cases e438; have qi438 : (0 < ((rd_T28 l0 x7_1).f5).length) = True := eq_true (by omega); (try rw [show ((0 : Int)).toNat = 0 from rfl] at hx438_0); (try rw [show 0 * 6 = 0 from rfl] at hx438_0); (try rw [Addr.add_zero'] at hx438_0); (try rw [show ((0 : Int)).toNat = 0 from rfl] at hx438_1); (try rw [show 0 * 6 = 0 from rfl] at hx438_1); (try rw [Addr.add_zero'] at hx438_1); (try rw [show ((0 : Int)).toNat = 0 from rfl] at hx438_2); (try rw [show 0 * 6 = 0 from rfl] at hx438_2); (try rw [Addr.add_zero'] at hx438_2); (try rw [show ((0 : Int)).toNat = 0 from rfl] at hx438_3); (try rw [show 0 * 6 = 0 from rfl] at hx438_3); (try rw [Addr.add_zero'] at hx438_3); (try rw [show ((0 : Int)).toNat = 0 from rfl] at hx438_4); (try rw [show 0 * 6 = 0 from rfl] at hx438_4); (try rw [Addr.add_zero'] at hx438_4); (try rw [show ((0 : Int)).toNat = 0 from rfl] at hx438_5); (try rw [show 0 * 6 = 0 from rfl] at hx438_5); (try rw [Addr.add_zero'] at hx438_5); replace hx438_0 := tcl HB hx438_0; replace hx438_1 := tcl HB hx438_1; replace hx438_2 := tcl HB hx438_2; replace hx438_3 := tcl HB hx438_3; replace hx438_4 := tcl HB hx438_4; replace hx438_5 := tcl HB hx438_5; have HR438_3 := Aside0.mk hi438_3; have HC438_3 := Aside0.mk hl438_3; clear hi438_3 hl438_3; have HR438_5 := Aside0.mk hi438_5; have HC438_5 := Aside0.mk hl438_5; clear hi438_5 hl438_5; replace p438 := eq_true p438; replace q438 := eq_true q438; have p439 : 0 ≤ (x7_1 : Int) := td; have q439 : x7_1 < (l0.length : Int) := td; obtain ⟨ad439, A439_5, c439_5, e439, hx439_0, hx439_1, hx439_2, hx439_3, hx439_4, hx439_5, hl439_5, hi439_5⟩ := at_T28 HR0.out x7_1 p439 q439; obtain rfl : ad423 = ad439 := (by injection e439); replace hx439_0 := tcl HB hx439_0; replace hx439_1 := tcl HB hx439_1; replace hx439_2 := tcl HB hx439_2; replace hx439_3 := tcl HB hx439_3; replace hx439_4 := tcl HB hx439_4; replace hx439_5 := tcl HB hx439_5; have HR439_5 := Aside0.mk hi439_5; have HC439_5 := Aside0.mk hl439_5; clear hi439_5 hl439_5; replace p439 := eq_true p439; replace q439 := eq_true q439; have ea_ := Option.some.inj (hx437_5.symm.trans hx439_5); injection ea_ with ea_ en_ ec_; subst ea_; subst ec_; clear en_) | ((with_reducible refine gate_callee (f := 14) rfl ?_); refine goesL_ (some 53) rfl rfl Tryd.func14 (by kernel_rfl) rfl #[.agg #[.bool ((rd_T28 l0 x7_1).f0), .bool ((rd_T28 l0 x7_1).f1), .int .i64 ((rd_T28 l0 x7_1).f2), .int .i64 ((rd_T28 l0 x7_1).f3), .int .i64 ((rd_T28 l0 x7_1).f4), .slice (some ad438) ((rd_T28 l0 x7_1).f5).length c437_5], .int .i64 a1] rfl tq ?_; (with_reducible refine (spec_BatchCut.calls k1 ((rd_T28 l0 x7_1).f0) ((rd_T28 l0 x7_1).f1) ((rd_T28 l0 x7_1).f2) ((rd_T28 l0 x7_1).f3) ((rd_T28 l0 x7_1).f4) _ _ ((rd_T28 l0 x7_1).f5) a1 t440 t441 t442 t443 t444 t445 t448 t449 t450 t451 t452 t453 true _ ?side1 ?side2 A20.out).mono ?_); (case side1 => exact tC (Kd.C_below HR439_5.out HB.out)); (case side2 => exact HC439_5.out); rintro e w24 ⟨v446, v454, rfl, ho0, ho1, hb⟩; have u_v446 := tsv Tryd.prog v446 ho0; have u_v454 := tsv Tryd.prog v454 ho1; refine ⟨_, rfl, ?_⟩; replace HO_6 := Aside0.mk (Kd.R_mono (Kd.R_told (Kd.R_told (Kd.R_old (tR HO_6.out) hb) (Kd.S_base ho0)) (Kd.S_base ho1)) (fun _ h_ => h_.1)); have HO447 := tSl ho0 HB; have HO455 := tSl ho1 HB; replace HB := tBs HB hb; (try clear hb); (try clear hb2); (try clear hk); (try clear hi); (try clear ho0); (try clear ho1)) | ((with_reducible refine gate_dst (N := 8) rfl ?_); refine box_event ?hg (N := 8) ?hd (cs := #[.bool false, .bool false, .int .i64 0, .int .i64 0, .int .i64 0, .slice none 0 0]) (t := 28) ?hr ?_; (case hd => rfl); (case hg => rfl); (case hr => first | (go_simp; done) | (go_simp; rfl)); intro gb457 hg w25 hbox hb; replace HO_6 := tRB HO_6 hg hb; replace HO447 := tSb HO447 hb; replace HO455 := tSb HO455 hb; have BK457 := Aside0.mk (hbox); have GW457 := tge HB hg; have GE457 := tge HB hg; replace HB := tBs HB hb; clear hb hbox hg) | ((with_reducible refine gate_dst (N := 9) rfl ?_); refine box_event ?hg (N := 9) ?hd (cs := #[.bool false, .bool false, .int .i64 0, .int .i64 0, .int .i64 0, .slice none 0 0]) (t := 28) ?hr ?_; (case hd => rfl); (case hg => rfl); (case hr => first | (go_simp; done) | (go_simp; rfl)); intro gb458 hg w26 hbox hb; replace HO_6 := tRB HO_6 hg hb; replace HO447 := tSb HO447 hb; replace HO455 := tSb HO455 hb; have BK458 := Aside0.mk (hbox); have GW458 := tge HB hg; have GE458 := tge HB hg; replace HB := tBs HB hb; have NB457_458 := tlt BK457 hg; have NB458_457 := tgt BK457 hg; replace BK457 := tBb BK457 hb; clear hb hbox hg; have hnb27 := NB457_458.out; have hnc27 := NB458_457.out; obtain ⟨hcz28_0, hcz28_1, hcz28_2, hcz28_3, hcz28_4, hcz28_5, hfz28_0, hfz28_1, hfz28_2, hfz28_3, hfz28_4, hfz28_5⟩ := cells6 BK457.out; obtain ⟨Ao29, co29, eo29⟩ := Kd.S_slice HO447.out; subst eo29) | ((with_reducible refine gate_store (t := 28) (p := 8) rfl ?_); refine store_event (t := 28) (p := 8) (v := ?vo_w30) (w1 := ((((((w26.setCell ⟨gb457, 0, none⟩ (.bool t440)).setCell ⟨gb457, 1, none⟩ (.bool t441)).setCell ⟨gb457, 2, none⟩ (.int .i64 t442)).setCell ⟨gb457, 3, none⟩ (.int .i64 t443)).setCell ⟨gb457, 4, none⟩ (.int .i64 t444)).setCell ⟨gb457, 5, none⟩ (.slice Ao29 t445.length co29))) ?hg ?ho ?hn ?hr ?_; (case ho => rfl); (case hg => rfl); (case hn => rfl); (case hr => first | (go_simp; done) | (go_simp; rfl)); intro w30 hw; have n0_ : Aside0 (Kd.R k28 28 w30 w.heap.size (fun k_ => some k_ ≠ (.slice Ao29 t445.length co29 : Value).ownBlock ∧ some k_ ≠ (v454 : Value).ownBlock ∧ k_ ≠ gb457 ∧ k_ ≠ gb458) u6 x6_1) := ⟨(by rw [hw]; exact (tRm HO_6.out))⟩; have n1_ : Aside0 (Kd.S k62 62 w30 w.heap.size (fun k_ => some k_ ≠ (v454 : Value).ownBlock) (.slice Ao29 t445.length co29) t445) := ⟨(by rw [hw]; exact (tSm (Kd.S_types HO447.out BK457.out (by decide))))⟩; have n2_ : Aside0 (Kd.S k62 62 w30 w.heap.size (fun k_ => some k_ ≠ (.slice Ao29 t445.length co29 : Value).ownBlock) v454 t453) := ⟨(by rw [hw]; exact (tSm (Kd.S_types HO455.out BK457.out (by decide))))⟩; have n3_ : Aside0 (w30.heap[gb457]? = some (.cells #[.bool t440, .bool t441, .int .i64 t442, .int .i64 t443, .int .i64 t444, .slice Ao29 t445.length co29] 28 (0, 0))) := ⟨(by rw [hw]; exact (tP BK457.out))⟩; have n4_ : Aside0 (w30.heap[gb458]? = some (.cells #[.bool false, .bool false, .int .i64 0, .int .i64 0, .int .i64 0, .slice none 0 0] 28 (0, 0))) := ⟨(by rw [hw]; exact (tH BK458.out))⟩; have n5_ : Aside0 (Below w.heap.size w w30) := ⟨(by rw [hw]; exact zb)⟩; clear hw; clear HO_6; clear HO447; clear HO455; clear BK457; clear BK458; clear HB; have HO_6 := n0_; have HO447 := n1_; have HO455 := n2_; have BK457 := n3_; have BK458 := n4_; have HB := n5_; clear n0_ n1_ n2_ n3_ n4_ n5_; obtain ⟨hcz31_0, hcz31_1, hcz31_2, hcz31_3, hcz31_4, hcz31_5, hfz31_0, hfz31_1, hfz31_2, hfz31_3, hfz31_4, hfz31_5⟩ := cells6 BK458.out; obtain ⟨Ao32, co32, eo32⟩ := Kd.S_slice HO455.out; subst eo32) | ((with_reducible refine gate_store (t := 28) (p := 9) rfl ?_); refine store_event (t := 28) (p := 9) (v := ?vo_w33) (w1 := ((((((w30.setCell ⟨gb458, 0, none⟩ (.bool t448)).setCell ⟨gb458, 1, none⟩ (.bool t449)).setCell ⟨gb458, 2, none⟩ (.int .i64 t450)).setCell ⟨gb458, 3, none⟩ (.int .i64 t451)).setCell ⟨gb458, 4, none⟩ (.int .i64 t452)).setCell ⟨gb458, 5, none⟩ (.slice Ao32 t453.length co32))) ?hg ?ho ?hn ?hr ?_; (case ho => rfl); (case hg => rfl); (case hn => rfl); (case hr => first | (go_simp; done) | (go_simp; rfl)); intro w33 hw; have n0_ : Aside0 (Kd.R k28 28 w33 w.heap.size (fun k_ => some k_ ≠ (.slice Ao29 t445.length co29 : Value).ownBlock ∧ some k_ ≠ (.slice Ao32 t453.length co32 : Value).ownBlock ∧ k_ ≠ gb457 ∧ k_ ≠ gb458) u6 x6_1) := ⟨(by rw [hw]; exact (tRm HO_6.out))⟩; have n1_ : Aside0 (Kd.S k62 62 w33 w.heap.size (fun k_ => some k_ ≠ (.slice Ao32 t453.length co32 : Value).ownBlock) (.slice Ao29 t445.length co29) t445) := ⟨(by rw [hw]; exact (tSm (Kd.S_types HO447.out BK458.out (by decide))))⟩; have n2_ : Aside0 (Kd.S k62 62 w33 w.heap.size (fun k_ => some k_ ≠ (.slice Ao29 t445.length co29 : Value).ownBlock) (.slice Ao32 t453.length co32) t453) := ⟨(by rw [hw]; exact (tSm (Kd.S_types HO455.out BK458.out (by decide))))⟩; have n3_ : Aside0 (w33.heap[gb457]? = some (.cells #[.bool t440, .bool t441, .int .i64 t442, .int .i64 t443, .int .i64 t444, .slice Ao29 t445.length co29] 28 (0, 0))) := ⟨(by rw [hw]; exact (tH BK457.out))⟩; have n4_ : Aside0 (w33.heap[gb458]? = some (.cells #[.bool t448, .bool t449, .int .i64 t450, .int .i64 t451, .int .i64 t452, .slice Ao32 t453.length co32] 28 (0, 0))) := ⟨(by rw [hw]; exact (tP BK458.out))⟩; have n5_ : Aside0 (Below w.heap.size w w33) := ⟨(by rw [hw]; exact zb)⟩; clear hw; clear HO_6; clear HO447; clear HO455; clear BK457; clear BK458; clear HB; have HO_6 := n0_; have HO447 := n1_; have HO455 := n2_; have BK457 := n3_; have BK458 := n4_; have HB := n5_; clear n0_ n1_ n2_ n3_ n4_ n5_; obtain ⟨hcz34_0, hcz34_1, hcz34_2, hcz34_3, hcz34_4, hcz34_5, hfz34_0, hfz34_1, hfz34_2, hfz34_3, hfz34_4, hfz34_5⟩ := cells6 BK457.out) | ((with_reducible refine gate_builtin (b := .append) (xs := #[.tmp 60, .tmp 62]) rfl ?_); at_builtin; refine Kd.R_append k28 (w0 := w) w.heap.size rfl (.tmp 60) (.tmp 62) 40 28 (.agg #[(.bool false), (.bool false), (.int .i64 0), (.int .i64 0), (.int .i64 0), (.slice none 0 0)]) 56 rfl Tryd.underlying40 info28 rfl (by decide) (by omega) u6 x6_1 (⟨t440, t441, t442, t443, t444, t445⟩ : S28) [.bool t440, .bool t441, .int .i64 t442, .int .i64 t443, .int .i64 t444, .slice Ao29 t445.length co29] (fun k_ => some k_ ≠ (.slice Ao32 t453.length co32 : Value).ownBlock ∧ k_ ≠ gb457 ∧ k_ ≠ gb458) (fun k_ => ((fun k_ => some k_ ≠ (.slice Ao32 t453.length co32 : Value).ownBlock ∧ k_ ≠ gb457 ∧ k_ ≠ gb458)) k_ ∧ some k_ ≠ (u6 : Value).ownBlock) rfl rfl ?aP (fun _ hk => hk) ?aF ?aO ?aB ?aS ?aL ?_; (case aP => exact k28_mkM _ _ _ (⟨t440, t441, t442, t443, t444, t445⟩ : S28) (Kd.R_mono (Kd.R_types (Kd.R_types (Kd.R_apart' ((Kd.S_R HO447.out)) (Kd.R_typed HO_6.out) (by decide)) BK457.out (by decide)) BK458.out (by decide)) (fun k_ hk => ⟨⟨hk.1.1.1, ⟨hk.1.2, hk.2⟩⟩, hk.1.1.2⟩))); (case aB => exact zb); (case aF => exact (fun k_ hk => ⟨Kd.fresh' (Kd.S_lt (tS HO455.out)) k_ hk, tfB BK457 k_ hk, tfB BK458 k_ hk⟩)); (case aO => exact (tRm HO_6.out)); (case aS => exact (below_size zb)); (case aL => have := LMc22.out; omega); intro v460 w35 ho hb hg hat; rw [← Ny459.out] at ho; replace HO455 := Aside0.mk (Kd.S_over' (tS HO455.out) (Kd.R_typed (tR HO_6.out)) (by decide) hg); replace BK457 := Aside0.mk (blk_grown (tH BK457.out) hg (Kd.R_away HO_6.out (fun _ hk => hk.2.2.1))); replace BK458 := Aside0.mk (blk_grown (tH BK458.out) hg (Kd.R_away HO_6.out (fun _ hk => hk.2.2.2))); replace HB := Aside0.mk (hb); have HO461 := Aside0.mk (ho); clear HO_6 HO447; clear ho hb hg hat))
           go_roundg k1
           case measure => have := HK1.out; omega
           case rel => exact ⟨(y459), (wrap64 (x7_1 + 1)), tr, H', ⟨by have := HK1.out; omega⟩, ⟨tRm HO461.out⟩, ⟨zb⟩⟩
          ·rw [if_neg c22] at H
           exact absurd H (by simp)
         ·replace c21 := Bool.eq_false_iff.mpr c21
          subst c21
          rw [if_neg (show ¬ (false = true) by decide)] at H
          obtain ⟨y462, hy462⟩ : ∃ y_ : List (S28), y_ = (([] : List (S28))) := ⟨_, rfl⟩
          replace H : (some (y462, false)) = some (r1, r2) := by first | (rw [hy462]; with_reducible exact H) | (have H2_ := (Option.bind_some _ _).symm.trans H; rw [hy462]; with_reducible exact H2_) | (have H2_ := (Option.bind_some _ _).symm.trans H; with_reducible exact H2_) | with_reducible exact H | (rw [hy462]; exact H) | exact H
          have Ny462 := Aside0.mk hy462
          clear hy462
          simp only [Option.some.injEq, Prod.mk.injEq] at H
          obtain ⟨rfl, rfl⟩ := H
          have p423 : 0 ≤ (x7_1 : Int) := td
          have q423 : x7_1 < (l0.length : Int) := td
          obtain ⟨ad423, A423_5, c423_5, e423, hx423_0, hx423_1, hx423_2, hx423_3, hx423_4, hx423_5, hl423_5, hi423_5⟩ := at_T28 HR0.out x7_1 p423 q423
          cases e423
          replace hx423_0 := tcl HB hx423_0
          replace hx423_1 := tcl HB hx423_1
          replace hx423_2 := tcl HB hx423_2
          replace hx423_3 := tcl HB hx423_3
          replace hx423_4 := tcl HB hx423_4
          replace hx423_5 := tcl HB hx423_5
          have HR423_5 := Aside0.mk hi423_5
          have HC423_5 := Aside0.mk hl423_5
          clear hi423_5 hl423_5
          replace p423 := eq_true p423
          replace q423 := eq_true q423
          go_wp2_with (first | ((with_reducible refine gate_callee (f := 36) rfl ?_); refine goesL_ (some 26) rfl rfl Tryd.func36 (by kernel_rfl) rfl #[.agg #[.bool ((rd_T28 l0 x7_1).f0), .bool ((rd_T28 l0 x7_1).f1), .int .i64 ((rd_T28 l0 x7_1).f2), .int .i64 ((rd_T28 l0 x7_1).f3), .int .i64 ((rd_T28 l0 x7_1).f4), .slice A423_5 ((rd_T28 l0 x7_1).f5).length c423_5]] rfl tq ?_; (with_reducible refine (spec_l12Last.calls ((rd_T28 l0 x7_1).f0) ((rd_T28 l0 x7_1).f1) ((rd_T28 l0 x7_1).f2) ((rd_T28 l0 x7_1).f3) ((rd_T28 l0 x7_1).f4) _ _ ((rd_T28 l0 x7_1).f5) t424 _ ?side1 ?side2 A10.out).mono ?_); (case side1 => exact tC (Kd.C_below HR423_5.out HB.out)); (case side2 => exact HC423_5.out); rintro e w36 ⟨rfl, hb⟩; refine ⟨_, rfl, ?_⟩; replace HO_6 := tRb HO_6 hb; replace HB := tBs HB hb; (try clear hb); (try clear hb2); (try clear hk); (try clear hi); have p437 : 0 ≤ (x7_1 : Int) := td; have q437 : x7_1 < (l0.length : Int) := td; obtain ⟨ad437, A437_5, c437_5, e437, hx437_0, hx437_1, hx437_2, hx437_3, hx437_4, hx437_5, hl437_5, hi437_5⟩ := at_T28 HR0.out x7_1 p437 q437; obtain rfl : ad423 = ad437 := (by injection e437); replace hx437_0 := tcl HB hx437_0; replace hx437_1 := tcl HB hx437_1; replace hx437_2 := tcl HB hx437_2; replace hx437_3 := tcl HB hx437_3; replace hx437_4 := tcl HB hx437_4; replace hx437_5 := tcl HB hx437_5; have HR437_5 := Aside0.mk hi437_5; have HC437_5 := Aside0.mk hl437_5; clear hi437_5 hl437_5; replace p437 := eq_true p437; replace q437 := eq_true q437; have p438 : 0 ≤ (0 : Int) := (by omega); have q438 : 0 < (((rd_T28 l0 x7_1).f5).length : Int) := td; obtain ⟨ad438, A438_3, c438_3, A438_5, c438_5, e438, hx438_0, hx438_1, hx438_2, hx438_3, hx438_4, hx438_5, hl438_3, hi438_3, hl438_5, hi438_5⟩ := at_T62 HR437_5.out 0 p438 q438; cases e438; have qi438 : (0 < ((rd_T28 l0 x7_1).f5).length) = True := eq_true (by omega); (try rw [show ((0 : Int)).toNat = 0 from rfl] at hx438_0); (try rw [show 0 * 6 = 0 from rfl] at hx438_0); (try rw [Addr.add_zero'] at hx438_0); (try rw [show ((0 : Int)).toNat = 0 from rfl] at hx438_1); (try rw [show 0 * 6 = 0 from rfl] at hx438_1); (try rw [Addr.add_zero'] at hx438_1); (try rw [show ((0 : Int)).toNat = 0 from rfl] at hx438_2); (try rw [show 0 * 6 = 0 from rfl] at hx438_2); (try rw [Addr.add_zero'] at hx438_2); (try rw [show ((0 : Int)).toNat = 0 from rfl] at hx438_3); (try rw [show 0 * 6 = 0 from rfl] at hx438_3); (try rw [Addr.add_zero'] at hx438_3); (try rw [show ((0 : Int)).toNat = 0 from rfl] at hx438_4); (try rw [show 0 * 6 = 0 from rfl] at hx438_4); (try rw [Addr.add_zero'] at hx438_4); (try rw [show ((0 : Int)).toNat = 0 from rfl] at hx438_5); (try rw [show 0 * 6 = 0 from rfl] at hx438_5); (try rw [Addr.add_zero'] at hx438_5); replace hx438_0 := tcl HB hx438_0; replace hx438_1 := tcl HB hx438_1; replace hx438_2 := tcl HB hx438_2; replace hx438_3 := tcl HB hx438_3; replace hx438_4 := tcl HB hx438_4; replace hx438_5 := tcl HB hx438_5; have HR438_3 := Aside0.mk hi438_3; have HC438_3 := Aside0.mk hl438_3; clear hi438_3 hl438_3; have HR438_5 := Aside0.mk hi438_5; have HC438_5 := Aside0.mk hl438_5; clear hi438_5 hl438_5; replace p438 := eq_true p438; replace q438 := eq_true q438; have p439 : 0 ≤ (x7_1 : Int) := td; have q439 : x7_1 < (l0.length : Int) := td; obtain ⟨ad439, A439_5, c439_5, e439, hx439_0, hx439_1, hx439_2, hx439_3, hx439_4, hx439_5, hl439_5, hi439_5⟩ := at_T28 HR0.out x7_1 p439 q439; obtain rfl : ad423 = ad439 := (by injection e439); replace hx439_0 := tcl HB hx439_0; replace hx439_1 := tcl HB hx439_1; replace hx439_2 := tcl HB hx439_2; replace hx439_3 := tcl HB hx439_3; replace hx439_4 := tcl HB hx439_4; replace hx439_5 := tcl HB hx439_5; have HR439_5 := Aside0.mk hi439_5; have HC439_5 := Aside0.mk hl439_5; clear hi439_5 hl439_5; replace p439 := eq_true p439; replace q439 := eq_true q439; have ea_ := Option.some.inj (hx437_5.symm.trans hx439_5); injection ea_ with ea_ en_ ec_; subst ea_; subst ec_; clear en_) | ((with_reducible refine gate_callee (f := 14) rfl ?_); refine goesL_ (some 53) rfl rfl Tryd.func14 (by kernel_rfl) rfl #[.agg #[.bool ((rd_T28 l0 x7_1).f0), .bool ((rd_T28 l0 x7_1).f1), .int .i64 ((rd_T28 l0 x7_1).f2), .int .i64 ((rd_T28 l0 x7_1).f3), .int .i64 ((rd_T28 l0 x7_1).f4), .slice (some ad438) ((rd_T28 l0 x7_1).f5).length c437_5], .int .i64 a1] rfl tq ?_; (with_reducible refine (spec_BatchCut.calls k1 ((rd_T28 l0 x7_1).f0) ((rd_T28 l0 x7_1).f1) ((rd_T28 l0 x7_1).f2) ((rd_T28 l0 x7_1).f3) ((rd_T28 l0 x7_1).f4) _ _ ((rd_T28 l0 x7_1).f5) a1 t440 t441 t442 t443 t444 t445 t448 t449 t450 t451 t452 t453 false _ ?side1 ?side2 A20.out).mono ?_); (case side1 => exact tC (Kd.C_below HR439_5.out HB.out)); (case side2 => exact HC439_5.out); rintro e w37 ⟨v446, v454, rfl, ho0, ho1, hb⟩; have u_v446 := tsv Tryd.prog v446 ho0; have u_v454 := tsv Tryd.prog v454 ho1; refine ⟨_, rfl, ?_⟩; replace HO_6 := Aside0.mk (Kd.R_mono (Kd.R_told (Kd.R_told (Kd.R_old (tR HO_6.out) hb) (Kd.S_base ho0)) (Kd.S_base ho1)) (fun _ h_ => h_.1)); have HO447 := tSl ho0 HB; have HO455 := tSl ho1 HB; replace HB := tBs HB hb; (try clear hb); (try clear hb2); (try clear hk); (try clear hi); (try clear ho0); (try clear ho1)) | ((with_reducible refine gate_dst (N := 8) rfl ?_); refine box_event ?hg (N := 8) ?hd (cs := #[.bool false, .bool false, .int .i64 0, .int .i64 0, .int .i64 0, .slice none 0 0]) (t := 28) ?hr ?_; (case hd => rfl); (case hg => rfl); (case hr => first | (go_simp; done) | (go_simp; rfl)); intro gb457 hg w38 hbox hb; replace HO_6 := tRB HO_6 hg hb; replace HO447 := tSb HO447 hb; replace HO455 := tSb HO455 hb; have BK457 := Aside0.mk (hbox); have GW457 := tge HB hg; have GE457 := tge HB hg; replace HB := tBs HB hb; clear hb hbox hg) | ((with_reducible refine gate_dst (N := 9) rfl ?_); refine box_event ?hg (N := 9) ?hd (cs := #[.bool false, .bool false, .int .i64 0, .int .i64 0, .int .i64 0, .slice none 0 0]) (t := 28) ?hr ?_; (case hd => rfl); (case hg => rfl); (case hr => first | (go_simp; done) | (go_simp; rfl)); intro gb458 hg w39 hbox hb; replace HO_6 := tRB HO_6 hg hb; replace HO447 := tSb HO447 hb; replace HO455 := tSb HO455 hb; have BK458 := Aside0.mk (hbox); have GW458 := tge HB hg; have GE458 := tge HB hg; replace HB := tBs HB hb; have NB457_458 := tlt BK457 hg; have NB458_457 := tgt BK457 hg; replace BK457 := tBb BK457 hb; clear hb hbox hg; have hnb40 := NB457_458.out; have hnc40 := NB458_457.out; obtain ⟨hcz41_0, hcz41_1, hcz41_2, hcz41_3, hcz41_4, hcz41_5, hfz41_0, hfz41_1, hfz41_2, hfz41_3, hfz41_4, hfz41_5⟩ := cells6 BK457.out; obtain ⟨Ao42, co42, eo42⟩ := Kd.S_slice HO447.out; subst eo42; obtain ⟨hcz43_0, hcz43_1, hcz43_2, hcz43_3, hcz43_4, hcz43_5, hfz43_0, hfz43_1, hfz43_2, hfz43_3, hfz43_4, hfz43_5⟩ := cells6 BK458.out; obtain ⟨Ao44, co44, eo44⟩ := Kd.S_slice HO455.out; subst eo44) | ((with_reducible refine gate_dst (N := 59) rfl ?_); refine Kd.R_lit k28 _ 28 ?hg (N := 59) ?hd (xs := ([] : List (S28))) (inner := []) (ok := fun _ => True) (okp := fun _ => True) ?hr ?hp (fun _ hk => hk) trivial (Below.refl _ _) (Nat.le_refl _) (by simp) ?_; (case hd => rfl); (case hg => rfl); (case hr => first | (go_simp; done) | (go_simp; rfl)); (case hp => exact (Reps.none _ _)); intro v463 w45 ho46 hb hg_ hnew_; clear hg_ hnew_; (first | rw [← Ny462.out] at ho46 | (simp only [Int.reduceToNat] at ho46; rw [← Ny462.out] at ho46)); have HO464 := Aside0.mk (Kd.R_lower (Kd.R_newB (Kd.R_newB (Kd.R_new' (Kd.R_new' (Kd.R_new' ho46 (Kd.R_lt (by (with_reducible repeat (first | apply Kd.R_alloc | apply Kd.R_drewN | apply Kd.R_drew)); exact (Kd.R_mono (Kd.R_mono (Kd.R_far (p := ⟨gb458, 5, none⟩) (Kd.R_far (p := ⟨gb458, 4, none⟩) (Kd.R_far (p := ⟨gb458, 3, none⟩) (Kd.R_far (p := ⟨gb458, 2, none⟩) (Kd.R_far (p := ⟨gb458, 1, none⟩) (Kd.R_far (p := ⟨gb458, 0, none⟩) (Kd.R_far (p := ⟨gb457, 5, none⟩) (Kd.R_far (p := ⟨gb457, 4, none⟩) (Kd.R_far (p := ⟨gb457, 3, none⟩) (Kd.R_far (p := ⟨gb457, 2, none⟩) (Kd.R_far (p := ⟨gb457, 1, none⟩) (Kd.R_far (p := ⟨gb457, 0, none⟩) (Kd.R_mono (Kd.R_mono HO_6.out (fun k_ hk => (⟨hk, hk.1.2⟩ : _ ∧ k_ ≠ gb457))) (fun k_ hk => (⟨hk, hk.1.2⟩ : _ ∧ k_ ≠ gb458))) (fun _ hk => hk.1.2) (.bool t440)) (fun _ hk => hk.1.2) (.bool t441)) (fun _ hk => hk.1.2) (.int .i64 t442)) (fun _ hk => hk.1.2) (.int .i64 t443)) (fun _ hk => hk.1.2) (.int .i64 t444)) (fun _ hk => hk.1.2) (.slice Ao42 t445.length co42)) (fun _ hk => hk.2) (.bool t448)) (fun _ hk => hk.2) (.bool t449)) (fun _ hk => hk.2) (.int .i64 t450)) (fun _ hk => hk.2) (.int .i64 t451)) (fun _ hk => hk.2) (.int .i64 t452)) (fun _ hk => hk.2) (.slice Ao44 t453.length co44)) (fun _ h_ => h_.1)) (fun _ h_ => h_.1))))) (Kd.S_lt (by (with_reducible repeat (first | apply Kd.S_alloc | apply Kd.S_drewN | apply Kd.S_drew)); exact (Kd.S_mono (Kd.S_mono (Kd.S_far (p := ⟨gb458, 5, none⟩) (Kd.S_far (p := ⟨gb458, 4, none⟩) (Kd.S_far (p := ⟨gb458, 3, none⟩) (Kd.S_far (p := ⟨gb458, 2, none⟩) (Kd.S_far (p := ⟨gb458, 1, none⟩) (Kd.S_far (p := ⟨gb458, 0, none⟩) (Kd.S_far (p := ⟨gb457, 5, none⟩) (Kd.S_far (p := ⟨gb457, 4, none⟩) (Kd.S_far (p := ⟨gb457, 3, none⟩) (Kd.S_far (p := ⟨gb457, 2, none⟩) (Kd.S_far (p := ⟨gb457, 1, none⟩) (Kd.S_far (p := ⟨gb457, 0, none⟩) (Kd.S_types (Kd.S_types HO447.out BK457.out (by decide)) BK458.out (by decide)) (fun _ hk => hk.1.2) (.bool t440)) (fun _ hk => hk.1.2) (.bool t441)) (fun _ hk => hk.1.2) (.int .i64 t442)) (fun _ hk => hk.1.2) (.int .i64 t443)) (fun _ hk => hk.1.2) (.int .i64 t444)) (fun _ hk => hk.1.2) (.slice Ao42 t445.length co42)) (fun _ hk => hk.2) (.bool t448)) (fun _ hk => hk.2) (.bool t449)) (fun _ hk => hk.2) (.int .i64 t450)) (fun _ hk => hk.2) (.int .i64 t451)) (fun _ hk => hk.2) (.int .i64 t452)) (fun _ hk => hk.2) (.slice Ao44 t453.length co44)) (fun _ h_ => h_.1)) (fun _ h_ => h_.1))))) (Kd.S_lt (by (with_reducible repeat (first | apply Kd.S_alloc | apply Kd.S_drewN | apply Kd.S_drew)); exact (Kd.S_mono (Kd.S_mono (Kd.S_far (p := ⟨gb458, 5, none⟩) (Kd.S_far (p := ⟨gb458, 4, none⟩) (Kd.S_far (p := ⟨gb458, 3, none⟩) (Kd.S_far (p := ⟨gb458, 2, none⟩) (Kd.S_far (p := ⟨gb458, 1, none⟩) (Kd.S_far (p := ⟨gb458, 0, none⟩) (Kd.S_far (p := ⟨gb457, 5, none⟩) (Kd.S_far (p := ⟨gb457, 4, none⟩) (Kd.S_far (p := ⟨gb457, 3, none⟩) (Kd.S_far (p := ⟨gb457, 2, none⟩) (Kd.S_far (p := ⟨gb457, 1, none⟩) (Kd.S_far (p := ⟨gb457, 0, none⟩) (Kd.S_types (Kd.S_types HO455.out BK457.out (by decide)) BK458.out (by decide)) (fun _ hk => hk.1.2) (.bool t440)) (fun _ hk => hk.1.2) (.bool t441)) (fun _ hk => hk.1.2) (.int .i64 t442)) (fun _ hk => hk.1.2) (.int .i64 t443)) (fun _ hk => hk.1.2) (.int .i64 t444)) (fun _ hk => hk.1.2) (.slice Ao42 t445.length co42)) (fun _ hk => hk.2) (.bool t448)) (fun _ hk => hk.2) (.bool t449)) (fun _ hk => hk.2) (.int .i64 t450)) (fun _ hk => hk.2) (.int .i64 t451)) (fun _ hk => hk.2) (.int .i64 t452)) (fun _ hk => hk.2) (.slice Ao44 t453.length co44)) (fun _ h_ => h_.1)) (fun _ h_ => h_.1))))) (g := gb457) (o := .cells #[.bool t440, .bool t441, .int .i64 t442, .int .i64 t443, .int .i64 t444, .slice Ao42 t445.length co42] 28 (0, 0)) (tP BK457.out)) (g := gb458) (o := .cells #[.bool t448, .bool t449, .int .i64 t450, .int .i64 t451, .int .i64 t452, .slice Ao44 t453.length co44] 28 (0, 0)) (tP BK458.out)) (below_size zb)); replace HO_6 := Aside0.mk (Kd.R_elder' (by (with_reducible repeat (first | apply Kd.R_alloc | apply Kd.R_drewN | apply Kd.R_drew)); exact (Kd.R_mono (Kd.R_mono (Kd.R_far (p := ⟨gb458, 5, none⟩) (Kd.R_far (p := ⟨gb458, 4, none⟩) (Kd.R_far (p := ⟨gb458, 3, none⟩) (Kd.R_far (p := ⟨gb458, 2, none⟩) (Kd.R_far (p := ⟨gb458, 1, none⟩) (Kd.R_far (p := ⟨gb458, 0, none⟩) (Kd.R_far (p := ⟨gb457, 5, none⟩) (Kd.R_far (p := ⟨gb457, 4, none⟩) (Kd.R_far (p := ⟨gb457, 3, none⟩) (Kd.R_far (p := ⟨gb457, 2, none⟩) (Kd.R_far (p := ⟨gb457, 1, none⟩) (Kd.R_far (p := ⟨gb457, 0, none⟩) (Kd.R_mono (Kd.R_mono HO_6.out (fun k_ hk => (⟨hk, hk.1.2⟩ : _ ∧ k_ ≠ gb457))) (fun k_ hk => (⟨hk, hk.1.2⟩ : _ ∧ k_ ≠ gb458))) (fun _ hk => hk.1.2) (.bool t440)) (fun _ hk => hk.1.2) (.bool t441)) (fun _ hk => hk.1.2) (.int .i64 t442)) (fun _ hk => hk.1.2) (.int .i64 t443)) (fun _ hk => hk.1.2) (.int .i64 t444)) (fun _ hk => hk.1.2) (.slice Ao42 t445.length co42)) (fun _ hk => hk.2) (.bool t448)) (fun _ hk => hk.2) (.bool t449)) (fun _ hk => hk.2) (.int .i64 t450)) (fun _ hk => hk.2) (.int .i64 t451)) (fun _ hk => hk.2) (.int .i64 t452)) (fun _ hk => hk.2) (.slice Ao44 t453.length co44)) (fun _ h_ => h_.1)) (fun _ h_ => h_.1))) (Kd.R_base ho46) hb); replace HO447 := Aside0.mk (Kd.S_below (by (with_reducible repeat (first | apply Kd.S_alloc | apply Kd.S_drewN | apply Kd.S_drew)); exact (Kd.S_mono (Kd.S_mono (Kd.S_far (p := ⟨gb458, 5, none⟩) (Kd.S_far (p := ⟨gb458, 4, none⟩) (Kd.S_far (p := ⟨gb458, 3, none⟩) (Kd.S_far (p := ⟨gb458, 2, none⟩) (Kd.S_far (p := ⟨gb458, 1, none⟩) (Kd.S_far (p := ⟨gb458, 0, none⟩) (Kd.S_far (p := ⟨gb457, 5, none⟩) (Kd.S_far (p := ⟨gb457, 4, none⟩) (Kd.S_far (p := ⟨gb457, 3, none⟩) (Kd.S_far (p := ⟨gb457, 2, none⟩) (Kd.S_far (p := ⟨gb457, 1, none⟩) (Kd.S_far (p := ⟨gb457, 0, none⟩) (Kd.S_types (Kd.S_types HO447.out BK457.out (by decide)) BK458.out (by decide)) (fun _ hk => hk.1.2) (.bool t440)) (fun _ hk => hk.1.2) (.bool t441)) (fun _ hk => hk.1.2) (.int .i64 t442)) (fun _ hk => hk.1.2) (.int .i64 t443)) (fun _ hk => hk.1.2) (.int .i64 t444)) (fun _ hk => hk.1.2) (.slice Ao42 t445.length co42)) (fun _ hk => hk.2) (.bool t448)) (fun _ hk => hk.2) (.bool t449)) (fun _ hk => hk.2) (.int .i64 t450)) (fun _ hk => hk.2) (.int .i64 t451)) (fun _ hk => hk.2) (.int .i64 t452)) (fun _ hk => hk.2) (.slice Ao44 t453.length co44)) (fun _ h_ => h_.1)) (fun _ h_ => h_.1))) hb); replace HO455 := Aside0.mk (Kd.S_below (by (with_reducible repeat (first | apply Kd.S_alloc | apply Kd.S_drewN | apply Kd.S_drew)); exact (Kd.S_mono (Kd.S_mono (Kd.S_far (p := ⟨gb458, 5, none⟩) (Kd.S_far (p := ⟨gb458, 4, none⟩) (Kd.S_far (p := ⟨gb458, 3, none⟩) (Kd.S_far (p := ⟨gb458, 2, none⟩) (Kd.S_far (p := ⟨gb458, 1, none⟩) (Kd.S_far (p := ⟨gb458, 0, none⟩) (Kd.S_far (p := ⟨gb457, 5, none⟩) (Kd.S_far (p := ⟨gb457, 4, none⟩) (Kd.S_far (p := ⟨gb457, 3, none⟩) (Kd.S_far (p := ⟨gb457, 2, none⟩) (Kd.S_far (p := ⟨gb457, 1, none⟩) (Kd.S_far (p := ⟨gb457, 0, none⟩) (Kd.S_types (Kd.S_types HO455.out BK457.out (by decide)) BK458.out (by decide)) (fun _ hk => hk.1.2) (.bool t440)) (fun _ hk => hk.1.2) (.bool t441)) (fun _ hk => hk.1.2) (.int .i64 t442)) (fun _ hk => hk.1.2) (.int .i64 t443)) (fun _ hk => hk.1.2) (.int .i64 t444)) (fun _ hk => hk.1.2) (.slice Ao42 t445.length co42)) (fun _ hk => hk.2) (.bool t448)) (fun _ hk => hk.2) (.bool t449)) (fun _ hk => hk.2) (.int .i64 t450)) (fun _ hk => hk.2) (.int .i64 t451)) (fun _ hk => hk.2) (.int .i64 t452)) (fun _ hk => hk.2) (.slice Ao44 t453.length co44)) (fun _ h_ => h_.1)) (fun _ h_ => h_.1))) hb); replace BK457 := tBp (o' := .cells #[.bool t440, .bool t441, .int .i64 t442, .int .i64 t443, .int .i64 t444, .slice Ao42 t445.length co42] 28 (0, 0)) BK457 hb; replace BK458 := tBp (o' := .cells #[.bool t448, .bool t449, .int .i64 t450, .int .i64 t451, .int .i64 t452, .slice Ao44 t453.length co44] 28 (0, 0)) BK458 hb; replace HB := tBs HB hb; clear hb ho46))
          go_ret2
          exact ⟨_, by first | rfl | (simp [errW_none, errW_some] <;> rfl) | (simp [*, errW_none, errW_some] <;> rfl), tRm HO464.out, zb⟩
        ·rw [if_neg c19] at H
         have c19b0 : decide (((rd_T62 ((rd_T28 l0 x7_1).f5) 0).f0) < a1) = false := decide_eq_false c19
         clear c19
         have H' := Aside0.mk H
         clear H
         have p423 : 0 ≤ (x7_1 : Int) := td
         have q423 : x7_1 < (l0.length : Int) := td
         obtain ⟨ad423, A423_5, c423_5, e423, hx423_0, hx423_1, hx423_2, hx423_3, hx423_4, hx423_5, hl423_5, hi423_5⟩ := at_T28 HR0.out x7_1 p423 q423
         cases e423
         replace hx423_0 := tcl HB hx423_0
         replace hx423_1 := tcl HB hx423_1
         replace hx423_2 := tcl HB hx423_2
         replace hx423_3 := tcl HB hx423_3
         replace hx423_4 := tcl HB hx423_4
         replace hx423_5 := tcl HB hx423_5
         have HR423_5 := Aside0.mk hi423_5
         have HC423_5 := Aside0.mk hl423_5
         clear hi423_5 hl423_5
         replace p423 := eq_true p423
         replace q423 := eq_true q423
         go_wp2_with (first | ((with_reducible refine gate_callee (f := 36) rfl ?_); refine goesL_ (some 26) rfl rfl Tryd.func36 (by kernel_rfl) rfl #[.agg #[.bool ((rd_T28 l0 x7_1).f0), .bool ((rd_T28 l0 x7_1).f1), .int .i64 ((rd_T28 l0 x7_1).f2), .int .i64 ((rd_T28 l0 x7_1).f3), .int .i64 ((rd_T28 l0 x7_1).f4), .slice A423_5 ((rd_T28 l0 x7_1).f5).length c423_5]] rfl tq ?_; (with_reducible refine (spec_l12Last.calls ((rd_T28 l0 x7_1).f0) ((rd_T28 l0 x7_1).f1) ((rd_T28 l0 x7_1).f2) ((rd_T28 l0 x7_1).f3) ((rd_T28 l0 x7_1).f4) _ _ ((rd_T28 l0 x7_1).f5) t424 _ ?side1 ?side2 A10.out).mono ?_); (case side1 => exact tC (Kd.C_below HR423_5.out HB.out)); (case side2 => exact HC423_5.out); rintro e w47 ⟨rfl, hb⟩; refine ⟨_, rfl, ?_⟩; replace HO_6 := tRb HO_6 hb; replace HB := tBs HB hb; (try clear hb); (try clear hb2); (try clear hk); (try clear hi); have p437 : 0 ≤ (x7_1 : Int) := td; have q437 : x7_1 < (l0.length : Int) := td; obtain ⟨ad437, A437_5, c437_5, e437, hx437_0, hx437_1, hx437_2, hx437_3, hx437_4, hx437_5, hl437_5, hi437_5⟩ := at_T28 HR0.out x7_1 p437 q437; obtain rfl : ad423 = ad437 := (by injection e437); replace hx437_0 := tcl HB hx437_0; replace hx437_1 := tcl HB hx437_1; replace hx437_2 := tcl HB hx437_2; replace hx437_3 := tcl HB hx437_3; replace hx437_4 := tcl HB hx437_4; replace hx437_5 := tcl HB hx437_5; have HR437_5 := Aside0.mk hi437_5; have HC437_5 := Aside0.mk hl437_5; clear hi437_5 hl437_5; replace p437 := eq_true p437; replace q437 := eq_true q437; have p438 : 0 ≤ (0 : Int) := (by omega); have q438 : 0 < (((rd_T28 l0 x7_1).f5).length : Int) := td; obtain ⟨ad438, A438_3, c438_3, A438_5, c438_5, e438, hx438_0, hx438_1, hx438_2, hx438_3, hx438_4, hx438_5, hl438_3, hi438_3, hl438_5, hi438_5⟩ := at_T62 HR437_5.out 0 p438 q438; cases e438; have qi438 : (0 < ((rd_T28 l0 x7_1).f5).length) = True := eq_true (by omega); (try rw [show ((0 : Int)).toNat = 0 from rfl] at hx438_0); (try rw [show 0 * 6 = 0 from rfl] at hx438_0); (try rw [Addr.add_zero'] at hx438_0); (try rw [show ((0 : Int)).toNat = 0 from rfl] at hx438_1); (try rw [show 0 * 6 = 0 from rfl] at hx438_1); (try rw [Addr.add_zero'] at hx438_1); (try rw [show ((0 : Int)).toNat = 0 from rfl] at hx438_2); (try rw [show 0 * 6 = 0 from rfl] at hx438_2); (try rw [Addr.add_zero'] at hx438_2); (try rw [show ((0 : Int)).toNat = 0 from rfl] at hx438_3); (try rw [show 0 * 6 = 0 from rfl] at hx438_3); (try rw [Addr.add_zero'] at hx438_3); (try rw [show ((0 : Int)).toNat = 0 from rfl] at hx438_4); (try rw [show 0 * 6 = 0 from rfl] at hx438_4); (try rw [Addr.add_zero'] at hx438_4); (try rw [show ((0 : Int)).toNat = 0 from rfl] at hx438_5); (try rw [show 0 * 6 = 0 from rfl] at hx438_5); (try rw [Addr.add_zero'] at hx438_5); replace hx438_0 := tcl HB hx438_0; replace hx438_1 := tcl HB hx438_1; replace hx438_2 := tcl HB hx438_2; replace hx438_3 := tcl HB hx438_3; replace hx438_4 := tcl HB hx438_4; replace hx438_5 := tcl HB hx438_5; have HR438_3 := Aside0.mk hi438_3; have HC438_3 := Aside0.mk hl438_3; clear hi438_3 hl438_3; have HR438_5 := Aside0.mk hi438_5; have HC438_5 := Aside0.mk hl438_5; clear hi438_5 hl438_5; replace p438 := eq_true p438; replace q438 := eq_true q438))
         go_roundg k1
         case measure => have := HK1.out; omega
         case rel => exact ⟨(x6_1), (wrap64 (x7_1 + 1)), tr, H', ⟨by have := HK1.out; omega⟩, ⟨tR HO_6.out⟩, ⟨zb⟩⟩
       ·rw [if_neg c18] at H
        exact absurd H (by simp)
     ·rw [if_neg c9] at H
      exact absurd H (by simp)
    ·rw [if_neg c8] at H
     have c8b0 : decide (x7_1 < (l0.length : Int)) = false := decide_eq_false c8
     clear c8
     simp only [Option.some.injEq, Prod.mk.injEq] at H
     obtain ⟨rfl, rfl⟩ := H
     go_wp2
     go_ret2
     exact ⟨_, by first | rfl | (simp [errW_none, errW_some] <;> rfl) | (simp [*, errW_none, errW_some] <;> rfl), tR HO_6.out, zb⟩
 ·replace c4 := Bool.eq_false_iff.mpr c4
  subst c4
  rw [if_neg (show ¬ (false = true) by decide)] at H
  simp only [Option.some.injEq, Prod.mk.injEq] at H
  obtain ⟨rfl, rfl⟩ := H
  go_enter Tryd.func17, Tryd.ntmps17
  go_wp2_with (first | ((with_reducible refine gate_dst (N := 11) rfl ?_); refine Kd.R_lit k28 _ 28 ?hg (N := 11) ?hd (xs := ([] : List (S28))) (inner := []) (ok := fun _ => True) (okp := fun _ => True) ?hr ?hp (fun _ hk => hk) trivial (Below.refl _ _) (Nat.le_refl _) (by simp) ?_; (case hd => rfl); (case hg => rfl); (case hr => first | (go_simp; done) | (go_simp; rfl)); (case hp => exact (Reps.none _ _)); intro v420 w48 ho49 hb hg_ hnew_; clear hg_ hnew_; (first | rw [← Ny419.out] at ho49 | (simp only [Int.reduceToNat] at ho49; rw [← Ny419.out] at ho49)); have HO421 := tRl ho49 HB; replace HB := tBs HB hb; clear hb ho49) | ((with_reducible refine gate_callee (f := 35) rfl ?_); refine goesL_ (some 13) rfl rfl Tryd.func35 (by kernel_rfl) rfl #[.slice A0 l0.length c0] rfl tq ?_; (with_reducible refine (spec_LogValid.calls k _ _ l0 false _ ?side1 ?side2 A3.out).mono ?_); (case side1 => exact tC (Kd.C_below HR0.out HB.out)); (case side2 => exact HC0.out); rintro e w50 ⟨rfl, hb⟩; refine ⟨_, rfl, ?_⟩; replace HO421 := tRb HO421 hb; replace HB := tBs HB hb; (try clear hb); (try clear hb2); (try clear hk); (try clear hi)))
  go_ret2
  exact ⟨_, by first | rfl | (simp [errW_none, errW_some] <;> rfl) | (simp [*, errW_none, errW_some] <;> rfl), tR HO421.out, zb⟩

def laws_toBatchS.l0 : Nat → List (S24) → List (S28) → Int → Option ((List (S28)))
 | 0, _, _, _ => none
 | k + 1, x0, x3, x4 => if x4 < (x0.length : Int) then (if 0 ≤ x4 then ((laws_toBatch.f k ((rd_T24 x0 x4).f0) ((rd_T24 x0 x4).f1) ((rd_T24 x0 x4).f2) ((rd_T24 x0 x4).f3) ((rd_T24 x0 x4).f4) ((rd_T24 x0 x4).f5)).bind fun bt469 => (if x4 < (x3.length : Int) then (laws_toBatchS.l0 k x0 (x3.set (x4 : Int).toNat (⟨bt469.1, bt469.2.1, bt469.2.2.1, bt469.2.2.2.1, bt469.2.2.2.2.1, bt469.2.2.2.2.2⟩ : S28)) (wrap64 (x4 + 1))) else (none))) else (none)) else (some x3)
def laws_toBatchS.f (k : Nat) (l0 : List (S24)) : Option ((List (S28))) := if 0 ≤ (l0.length : Int) then (if ((l0.length : Int) : Int).toNat ≤ 5026338869833 then (laws_toBatchS.l0 k l0 (List.replicate ((l0.length : Int) : Int).toNat z28) 0) else (none)) else (none)
end Go.Proofs.YtfjkpdhldeopaaaDoor.G

namespace Go.Proofs.YtfjkpdhldeopaaaDoor.G
open Go.RowKit Go.Proofs.YtfjkpdhldeopaaaDoorW.PrintWords Go.Proofs.YtfjkpdhldeopaaaDoorW.PrintLast Go.Proofs.YtfjkpdhldeopaaaDoorW.PrintMore
set_option linter.unusedVariables false
set_option linter.unusedSimpArgs false
set_option maxHeartbeats 4000000 in
set_option maxRecDepth 100000 in
theorem laws_toBatchS.callsB (k : Nat) (A : Option Addr) (c : Nat) (l : List S24) (r : List S28) (w : World) (hr : Kd.C k24 w A l.length l) (hc : l.length ≤ c) (h : laws_toBatchS.f k l = some r) :
    Calls Tryd.prog 18 #[.slice A l.length c] w fun e w' => ∃ v : Value, e = .returned v ∧ Kd.S kB 28 w' w.heap.size (fun _ => True) v r ∧ Below w.heap.size w w' := by
  have HR := Aside0.mk hr
  have HC := Aside0.mk hc
  have HS := Aside0.mk (St.nil w)
  clear hr hc
  unfold laws_toBatchS.f at h
  rw [if_pos (by omega)] at h
  by_cases hl : (l.length : Int).toNat ≤ 5026338869833
  case neg => rw [if_neg hl] at h; cases h
  rw [if_pos hl] at h
  have HH := Aside0.mk h
  have HL := Aside0.mk hl
  clear h hl
  go_enter Tryd.func18, Tryd.ntmps18
  go_wp2_with (first
    | ((with_reducible refine gate_dst (N := 7) rfl ?_); refine Kd.S_make kB (w0 := w) w.heap.size 28 rfl (N := 7) rfl 40 _ _ rfl (l.length : Int) rfl rfl Tryd.underlying40 (.agg #[.bool false, .bool false, .int .i64 0, .int .i64 0, .int .i64 0, .slice none 0 0]) 56 (by kernel_rfl) rfl (by decide) (by omega) z28 (ok := fun _ => True) (okp := fun _ => True) (kB_mkM _ _ _ z28 (Kd.S_nil _ _ _ _ _)) (fun _ _ => trivial) trivial (by omega) (by have := HL.out; omega) (Below.refl _ _) (Nat.le_refl _) ?_; intro v W hs hb hg hat; clear hg hat; obtain ⟨V, q, hv⟩ := Kd.S_slice hs; rw [show (List.replicate (l.length : Int).toNat z28).length = l.length by simp] at hv; subst hv; replace HS := Aside0.mk (HS.out.pushS hs hb); clear hs hb))
  go_loopg [4] k (fun kq v4 wr => ∃ (x : Int) (ys : List S28) (P : Nat → Prop), v4 = .int .i64 x ∧ ys.length = l.length ∧ Aside0 (laws_toBatchS.l0 kq l ys x = some r) ∧ Aside0 (kq ≤ k) ∧ Aside0 (St w wr [rowS kB 28 w.heap.size (.slice V l.length q) ys P]))
  case atStart => exact ⟨0, _, _, rfl, by simp, HH, ⟨Nat.le_refl _⟩, HS⟩
  case round =>
    clear HH HS
    obtain ⟨x, ys, P, rfl, hyl, HA, HK, HS⟩ := hrel
    cases gk with
    | zero => exact absurd HA.out (by simp [laws_toBatchS.l0])
    | succ k2 =>
      have H := HA.out
      clear HA
      simp only [laws_toBatchS.l0] at H
      by_cases c1 : x < (l.length : Int)
      · rw [if_pos c1] at H
        by_cases c2 : 0 ≤ x
        case neg => rw [if_neg c2] at H; cases H
        rw [if_pos c2] at H
        obtain ⟨⟨t0, t1, t2, t3, t4, t5⟩, hcp, H⟩ := Option.bind_eq_some_iff.mp H
        rw [if_pos (by omega)] at H
        obtain ⟨ad, A5, c5, e_, x0, x1, x2, x3, x4, x5, hl5, hi5⟩ := at_T24 HR.out x c2 c1
        cases e_
        replace x0 := (HS.out.below.cell (World.block_lt_of_cell? w _ x0)).trans x0
        replace x1 := (HS.out.below.cell (World.block_lt_of_cell? w _ x1)).trans x1
        replace x2 := (HS.out.below.cell (World.block_lt_of_cell? w _ x2)).trans x2
        replace x3 := (HS.out.below.cell (World.block_lt_of_cell? w _ x3)).trans x3
        replace x4 := (HS.out.below.cell (World.block_lt_of_cell? w _ x4)).trans x4
        replace x5 := (HS.out.below.cell (World.block_lt_of_cell? w _ x5)).trans x5
        obtain ⟨g, cap', e0, hgb, hgl, cells, hgc⟩ := Kd.S_form (HS.out.getS 0 rfl) (by omega)
        injection e0 with e1 e2 e3
        subst e1
        subst e3
        have HE := Aside0.mk (And.intro hyl (And.intro c2 c1))
        have HI := Aside0.mk (And.intro hl5 hi5)
        have HP := Aside0.mk hcp
        have HA := Aside0.mk H
        clear hl5 hi5 hcp H e2 hgb hgl hgc hyl
        replace c1 := eq_true c1
        replace c2 := eq_true c2
        go_wp2_with (first
          | (go_at_call 9; with_reducible refine (laws_toBatch.calls k2 (rd_T24 l x).f0 (rd_T24 l x).f1 (rd_T24 l x).f2 (rd_T24 l x).f3 (rd_T24 l x).f4 _ _ (rd_T24 l x).f5 t0 t1 t2 t3 t4 t5 _ (Kd.C_below HI.out.2 HS.out.below) HI.out.1 HP.out).mono ?_; rintro e W ⟨v, rfl, hs, hb⟩; obtain ⟨Y, y, rfl⟩ := Kd.S_slice hs; replace HS := Aside0.mk (HS.out.pushM (kB_mkM W _ (fun _ => True) (⟨t0, t1, t2, t3, t4, t5⟩ : S28) hs) hb); clear hs hb)
          | ((with_reducible refine gate_store (t := 28) (p := 21) rfl ?_); refine St_store (d := kB) z28 HS.out rfl rfl 28 (.tmp 21) (.tmp 20) rfl rfl rfl rfl (by kernel_rfl) HE.out.2.1 HE.out.2.2 ?_; intro W P1 h_; clear HS; have HS := Aside0.mk h_; clear h_))
        go_roundg k2
        case measure => omega
        case rel => exact ⟨_, ys.set x.toNat ⟨t0, t1, t2, t3, t4, t5⟩, P1, rfl, by rw [List.length_set]; exact HE.out.1, HA, ⟨by have := HK.out; omega⟩, HS⟩
      · rw [if_neg c1] at H
        cases H
        go_wp2
        go_ret
        exact ⟨_, rfl, Kd.S_mono (HS.out.getS 0 rfl) (fun _ _ => trivial), HS.out.below⟩
end Go.Proofs.YtfjkpdhldeopaaaDoor.G

namespace Go.Proofs.YtfjkpdhldeopaaaDoor.G
open Go.RowKit Go.Proofs.YtfjkpdhldeopaaaDoorW.PrintWords Go.Proofs.YtfjkpdhldeopaaaDoorW.PrintLast Go.Proofs.YtfjkpdhldeopaaaDoorW.PrintMore
set_option linter.unusedVariables false
set_option linter.unusedSimpArgs false
abbrev BatV (p m : Bool) (i j s : Int) (v : Value) : Value := .agg #[.bool p, .bool m, .int .i64 i, .int .i64 j, .int .i64 s, v]
abbrev batE (g : Nat) (p m : Bool) (i j s : Int) (v : Value) : En := boxE g #[.bool p, .bool m, .int .i64 i, .int .i64 j, .int .i64 s, v] 28
end Go.Proofs.YtfjkpdhldeopaaaDoor.G

namespace Go.Proofs.YtfjkpdhldeopaaaDoor.G
open Go.RowKit Go.Proofs.YtfjkpdhldeopaaaDoorW.PrintWords Go.Proofs.YtfjkpdhldeopaaaDoorW.PrintLast Go.Proofs.YtfjkpdhldeopaaaDoorW.PrintMore
attribute [local go_sem] max2_int min2_int max_two min_two max_three min_three max_four min_four   -- for this text's walks alone
set_option linter.unusedVariables false
set_option linter.unusedSimpArgs false

mutual
def impl_Batch_cut.j0 : Nat → Int → Bool → Bool → Bool → Int → Int → Int → List (S62) → Option (Bool × Bool × Int × Int × Int × (List (S62)) × Bool × Bool × Int × Int × Int × (List (S62)) × Option Int)
 | 0, _, _, _, _, _, _, _, _ => none
 | k + 1, x1, x18, x340000, x340001, x340002, x340003, x340004, x340005 => if x18 = true then (some (false, false, 0, 0, 0, ([] : List (S62)), false, false, 0, 0, 0, ([] : List (S62)), some 2)) else (impl_Batch_cut.l0 k x1 x340005 (x340005.length : Int) 0 x340000 false 255 0 0 ([] : List (S62)) x340000 false 255 0 0 ([] : List (S62)))
def impl_Batch_cut.l0 : Nat → Int → List (S62) → Int → Int → Bool → Bool → Int → Int → Int → List (S62) → Bool → Bool → Int → Int → Int → List (S62) → Option (Bool × Bool × Int × Int × Int × (List (S62)) × Bool × Bool × Int × Int × Int × (List (S62)) × Option Int)
 | 0, _, _, _, _, _, _, _, _, _, _, _, _, _, _, _, _ => none
 | k + 1, x1, x27, x28, x29, x344000, x344001, x344002, x344003, x344004, x344005, x345000, x345001, x345002, x345003, x345004, x345005 => if x29 < x28 then (if 0 ≤ x29 then (if x29 < (x27.length : Int) then (if ((rd_T62 x27 x29).f0) < x1 then ((impl_Record_copyOf.f ((rd_T62 x27 x29).f0) ((rd_T62 x27 x29).f1) ((rd_T62 x27 x29).f2) ((rd_T62 x27 x29).f3) ((rd_T62 x27 x29).f4) ((rd_T62 x27 x29).f5)).bind fun bt347 => (if x344005.length < 1759218604441 then (impl_Batch_cut.l0 k x1 x27 x28 (wrap64 (x29 + 1)) x344000 x344001 x344002 x344003 x344004 (x344005 ++ [(⟨bt347.1, bt347.2.1, bt347.2.2.1, bt347.2.2.2.1, bt347.2.2.2.2.1, bt347.2.2.2.2.2⟩ : S62)]) x345000 x345001 x345002 x345003 x345004 x345005) else (none))) else ((impl_Record_copyOf.f ((rd_T62 x27 x29).f0) ((rd_T62 x27 x29).f1) ((rd_T62 x27 x29).f2) ((rd_T62 x27 x29).f3) ((rd_T62 x27 x29).f4) ((rd_T62 x27 x29).f5)).bind fun bt360 => (if x345005.length < 1759218604441 then (impl_Batch_cut.l0 k x1 x27 x28 (wrap64 (x29 + 1)) x344000 x344001 x344002 x344003 x344004 x344005 x345000 x345001 x345002 x345003 x345004 (x345005 ++ [(⟨bt360.1, bt360.2.1, bt360.2.2.1, bt360.2.2.2.1, bt360.2.2.2.2.1, bt360.2.2.2.2.2⟩ : S62)])) else (none)))) else (none)) else (none)) else (if (x344005.length : Int) = 0 then (some (false, false, 0, 0, 0, ([] : List (S62)), false, false, 0, 0, 0, ([] : List (S62)), some 2)) else (if (x345005.length : Int) = 0 then (some (false, false, 0, 0, 0, ([] : List (S62)), false, false, 0, 0, 0, ([] : List (S62)), some 2)) else (some (x344000, x344001, x344002, x344003, x344004, x344005, x345000, x345001, x345002, x345003, x345004, x345005, none))))
end
def impl_Batch_cut.f (k : Nat) (a0_0 : Bool) (a0_1 : Bool) (a0_2 : Int) (a0_3 : Int) (a0_4 : Int) (l0_5 : List (S62)) (a1 : Int) : Option (Bool × Bool × Int × Int × Int × (List (S62)) × Bool × Bool × Int × Int × Int × (List (S62)) × Option Int) := (impl_BatchValid.f k a0_0 a0_1 a0_2 a0_3 a0_4 l0_5).bind fun t342 => (if t342 = true then (impl_Batch_cut.j0 k a1 (a0_2 != 255) a0_0 a0_1 a0_2 a0_3 a0_4 l0_5) else (impl_Batch_cut.j0 k a1 true a0_0 a0_1 a0_2 a0_3 a0_4 l0_5))
end Go.Proofs.YtfjkpdhldeopaaaDoor.G

