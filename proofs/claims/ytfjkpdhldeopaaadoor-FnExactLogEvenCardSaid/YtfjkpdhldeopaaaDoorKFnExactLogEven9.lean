/- A text of seat YtfjkpdhldeopaaaDoor: what the law FnExactLogEven needs of this repo's texts (by pack.py). Not trusted: Lean checks it. -/
import Derived.Test.YtfjkpdhldeopaaaDoorKFnExactLogEven8
namespace Go.Proofs.YtfjkpdhldeopaaaDoor.G
open Go.RowKit Go.Proofs.YtfjkpdhldeopaaaDoorW.PrintWords Go.Proofs.YtfjkpdhldeopaaaDoorW.PrintLast Go.Proofs.YtfjkpdhldeopaaaDoorW.PrintMore
attribute [local go_sem] max2_int min2_int max_two min_two max_three min_three max_four min_four   -- for this text's walks alone
set_option linter.unusedVariables false
set_option linter.unusedSimpArgs false

def laws_toIntS.l0 : Nat → List Int → List Int → Int → Option (List Int)
 | 0, _, _, _ => none
 | k + 1, x0, x3, x4 => if x4 < (x0.length : Int) then (if 0 ≤ x4 then (if x4 < (x3.length : Int) then (laws_toIntS.l0 k x0 (x3.set (x4 : Int).toNat (rd x0 x4)) (wrap64 (x4 + 1))) else (none)) else (none)) else (some x3)
def laws_toIntS.f (k : Nat) (l0 : List Int) : Option (List Int) := if 0 ≤ (l0.length : Int) then (if ((l0.length : Int) : Int).toNat ≤ 35184372088832 then (laws_toIntS.l0 k l0 (List.replicate ((l0.length : Int) : Int).toNat 0) 0) else (none)) else (none)
set_option maxHeartbeats 8000000 in
set_option maxRecDepth 100000 in
theorem laws_toIntS.calls (k : Nat) (A0 : Option Addr) (c0 : Nat) (l0 : List Int) (r : List Int) (w : World) (hr0 : Kd.C (Kd.int .i64) w A0 l0.length l0) (hc0 : l0.length ≤ c0) (h : laws_toIntS.f k l0 = some r) :
  Calls Tryd.prog 57 #[.slice A0 l0.length c0] w fun e w' => ∃ v0_ : Value, e = .returned (v0_) ∧ Kd.R (Kd.int .i64) 3 w' w.heap.size (fun _ => True) v0_ r ∧ Below w.heap.size w w' := by
 have HR0 := Aside0.mk hr0
 have HC0 := Aside0.mk hc0
 clear hr0 hc0
 have HB := Aside0.mk (Below.refl w.heap.size w)
 have H : (if 0 ≤ (l0.length : Int) then (if ((l0.length : Int) : Int).toNat ≤ 35184372088832 then (laws_toIntS.l0 k l0 (List.replicate ((l0.length : Int) : Int).toNat 0) 0) else (none)) else (none)) = some r := h
 clear h
 by_cases c2 : 0 ≤ (l0.length : Int)
 ·rw [if_pos c2] at H
  have c2b0 := eq_true c2
  have c2b1 : decide (0 ≤ (l0.length : Int)) = true := decide_eq_true c2
  clear c2
  by_cases c3 : ((l0.length : Int) : Int).toNat ≤ 35184372088832
  ·rw [if_pos c3] at H
   have c3b0 := eq_true c3
   have c3b1 : decide (((l0.length : Int) : Int).toNat ≤ 35184372088832) = true := decide_eq_true c3
   clear c3
   obtain ⟨y174, hy174⟩ : ∃ y_ : List Int, y_ = (List.replicate ((l0.length : Int) : Int).toNat 0) := ⟨_, rfl⟩
   replace H : (laws_toIntS.l0 k l0 y174 0) = some r := by first | (rw [hy174]; with_reducible exact H) | (have H2_ := (Option.bind_some _ _).symm.trans H; rw [hy174]; with_reducible exact H2_) | (have H2_ := (Option.bind_some _ _).symm.trans H; with_reducible exact H2_) | with_reducible exact H | (rw [hy174]; exact H) | exact H
   have Ny174 := Aside0.mk hy174
   clear hy174
   have H' := Aside0.mk H
   clear H
   go_enter Tryd.func57, Tryd.ntmps57
   go_wp2_with (first | ((with_reducible refine gate_dst (N := 7) rfl ?_); refine Kd.R_make (Kd.int .i64) _ 3 rfl (N := 7) rfl 60 _ _ rfl (l0.length : Int) rfl rfl Tryd.underlying60 (.int .i64 0) 8 info3 rfl (by decide) (by omega) 0 (ok := fun _ => True) (okp := fun _ => True) rfl (fun _ hk => hk) trivial (td) (Nat.le_trans (Nat.mul_le_mul_right _ (td : (l0.length : Int).toNat ≤ 35184372088832)) (by omega)) (Below.refl _ _) (Nat.le_refl _) ?_; intro v175 w4 ho5 hb hg_ hnew_; clear hg_ hnew_; (first | rw [← Ny174.out] at ho5 | (simp only [Int.reduceToNat] at ho5; rw [← Ny174.out] at ho5)); have HO176 := tRl ho5 HB; replace HB := tBs HB hb; clear hb ho5))
   go_loopg [4] k (fun kq v4 w' => ∃ (x3_1 : List Int) (x4_1 : Int), v4 = .int .i64 x4_1 ∧ Aside0 (laws_toIntS.l0 kq l0 x3_1 x4_1 = some r) ∧ Aside0 (kq ≤ k) ∧ Aside0 (Kd.R (Kd.int .i64) 3 w' w.heap.size (fun _ => True) v175 x3_1) ∧ Aside0 (Below w.heap.size w w'))
   case atStart => exact ⟨(y174), (0), tr, H', ⟨Nat.le_refl _⟩, ⟨tR HO176.out⟩, ⟨zb⟩⟩
   case round =>
    clear H'
    try clear c2; try clear c2b0; try clear c2b1; try clear c3; try clear c3b0; try clear c3b1
    obtain ⟨x3_1, x4_1, rfl, HA, HK1, HO_3, HB⟩ := hrel
    cases gk with
    | zero => exact absurd HA.out (by simp [laws_toIntS.l0])
    | succ k1 =>
     have H := HA.out
     clear HA
     simp only [laws_toIntS.l0] at H
     by_cases c6 : x4_1 < (l0.length : Int)
     ·rw [if_pos c6] at H
      have c6b0 : decide (x4_1 < (l0.length : Int)) = true := decide_eq_true c6
      clear c6
      by_cases c7 : 0 ≤ x4_1
      ·rw [if_pos c7] at H
       have c7b0 : decide (0 ≤ x4_1) = true := decide_eq_true c7
       clear c7
       by_cases c8 : x4_1 < (x3_1.length : Int)
       ·rw [if_pos c8] at H
        have c8b0 : decide (x4_1 < (x3_1.length : Int)) = true := decide_eq_true c8
        clear c8
        obtain ⟨y178, hy178⟩ : ∃ y_ : List Int, y_ = (x3_1.set (x4_1 : Int).toNat (rd l0 x4_1)) := ⟨_, rfl⟩
        replace H : (laws_toIntS.l0 k1 l0 y178 (wrap64 (x4_1 + 1))) = some r := by first | (rw [hy178]; with_reducible exact H) | (have H2_ := (Option.bind_some _ _).symm.trans H; rw [hy178]; with_reducible exact H2_) | (have H2_ := (Option.bind_some _ _).symm.trans H; with_reducible exact H2_) | with_reducible exact H | (rw [hy178]; exact H) | exact H
        have Ny178 := Aside0.mk hy178
        clear hy178
        have H' := Aside0.mk H
        clear H
        have p177 : 0 ≤ (x4_1 : Int) := td
        have q177 : x4_1 < (l0.length : Int) := td
        obtain ⟨ad177, e177, hx177_0⟩ := Kd.at_int HR0.out x4_1 p177 q177
        cases e177
        replace hx177_0 := tcl HB hx177_0
        replace p177 := eq_true p177
        replace q177 := eq_true q177
        have p9 : 0 ≤ (x4_1 : Int) := td
        have q9 : (x4_1 : Int) < ((x3_1.length : Int) : Int) := td
        obtain ⟨go9, co9, eo9, gb9, gl9, cl9, HG9⟩ := Kd.R_form HO_3.out (by omega)
        (first | cases eo9 | (injection eo9 with ea_ en_ ec_; (first | subst ea_ | (injection ea_ with ea_; subst ea_)); subst ec_; clear en_))
        have GB9 := Aside0.mk gb9
        have GG9 := Aside0.mk HG9
        clear gb9 gl9 HG9
        obtain ⟨hx9_0, hf9_0⟩ := Kd.R_celln 0 HO_3.out (x4_1 : Int) p9 q9
        replace p9 := eq_true p9
        replace q9 := eq_true q9
        have HP10 := Kd.R_putg HO_3.out (x4_1 : Int) (rd l0 x4_1)
        go_wp2_with (first | ((with_reducible refine gate_store (t := 3) (p := 20) rfl ?_); refine store_event (t := 3) (p := 20) (v := ?vo_w11) (w1 := (wr.setCell ⟨go9, (x4_1 : Int).toNat, none⟩ (.int .i64 (rd l0 x4_1)))) ?hg ?ho ?hn ?hr ?_; (case ho => rfl); (case hg => rfl); (case hn => rfl); (case hr => first | (go_simp; done) | (go_simp; rfl)); intro w11 hw; have hg : wr.grownBy w11 (some go9) := (by rw [hw]; exact HP10.2); have hp_ : Kd.R (Kd.int .i64) 3 w11 w.heap.size (fun _ => True) (.slice (some ⟨go9, 0, none⟩) x3_1.length co9) y178 := (by rw [hw, Ny178.out]; exact HP10.1); clear HP10; replace HO_3 := Aside0.mk (hp_); replace HB := Aside0.mk ((by rw [hw]; exact below_set (HB.out) GB9.out : Below w.heap.size w w11)); clear hg hw hp_))
        go_roundg k1
        case measure => have := HK1.out; omega
        case rel => exact ⟨(y178), (wrap64 (x4_1 + 1)), tr, H', ⟨by have := HK1.out; omega⟩, ⟨tR HO_3.out⟩, ⟨zb⟩⟩
       ·rw [if_neg c8] at H
        exact absurd H (by simp)
      ·rw [if_neg c7] at H
       exact absurd H (by simp)
     ·rw [if_neg c6] at H
      have c6b0 : decide (x4_1 < (l0.length : Int)) = false := decide_eq_false c6
      clear c6
      obtain rfl := Option.some.inj H
      go_wp2
      go_ret
      exact ⟨_, by first | rfl | (simp [errW_none, errW_some] <;> rfl) | (simp [*, errW_none, errW_some] <;> rfl), tR HO_3.out, zb⟩
  ·rw [if_neg c3] at H
   exact absurd H (by simp)
 ·rw [if_neg c2] at H
  exact absurd H (by simp)

def laws_toRecord.f (k : Nat) (a0_0 : Int) (a0_1 : Int) (a0_2 : Bool) (l0_3 : List Int) (a0_4 : Bool) (l0_5 : List Int) : Option (Int × Int × Bool × List Int × Bool × List Int) := (laws_toIntS.f k l0_3).bind fun t182 => ((laws_toIntS.f k l0_5).bind fun t185 => (some (a0_0, a0_1, a0_2, t182, a0_4, t185)))
set_option maxHeartbeats 8000000 in
set_option maxRecDepth 100000 in
theorem laws_toRecord.calls (k : Nat) (a0_0 : Int) (a0_1 : Int) (a0_2 : Bool) (A0_3 : Option Addr) (c0_3 : Nat) (l0_3 : List Int) (a0_4 : Bool) (A0_5 : Option Addr) (c0_5 : Nat) (l0_5 : List Int) (r1 : Int) (r2 : Int) (r3 : Bool) (r4 : List Int) (r5 : Bool) (r6 : List Int) (w : World) (hr0_3 : Kd.C (Kd.int .i64) w A0_3 l0_3.length l0_3) (hc0_3 : l0_3.length ≤ c0_3) (hr0_5 : Kd.C (Kd.int .i64) w A0_5 l0_5.length l0_5) (hc0_5 : l0_5.length ≤ c0_5) (h : laws_toRecord.f k a0_0 a0_1 a0_2 l0_3 a0_4 l0_5 = some (r1, r2, r3, r4, r5, r6)) :
  Calls Tryd.prog 46 #[.agg #[.int .i64 a0_0, .int .i64 a0_1, .bool a0_2, .slice A0_3 l0_3.length c0_3, .bool a0_4, .slice A0_5 l0_5.length c0_5]] w fun e w' => ∃ v3_ v5_ : Value, e = .returned (.agg #[.int .i64 r1, .int .i64 r2, .bool r3, v3_, .bool r5, v5_]) ∧ Kd.R (Kd.int .i64) 3 w' w.heap.size (fun k_ => some k_ ≠ (v5_ : Value).ownBlock) v3_ r4 ∧ Kd.R (Kd.int .i64) 3 w' w.heap.size (fun k_ => some k_ ≠ (v3_ : Value).ownBlock) v5_ r6 ∧ Below w.heap.size w w' := by
 have hu71 := Tryd.underlying71
 have hu62 := Tryd.underlying62
 have HR0_3 := Aside0.mk hr0_3
 have HC0_3 := Aside0.mk hc0_3
 clear hr0_3 hc0_3
 have HR0_5 := Aside0.mk hr0_5
 have HC0_5 := Aside0.mk hc0_5
 clear hr0_5 hc0_5
 have HB := Aside0.mk (Below.refl w.heap.size w)
 have H : ((laws_toIntS.f k l0_3).bind fun t182 => ((laws_toIntS.f k l0_5).bind fun t185 => (some (a0_0, a0_1, a0_2, t182, a0_4, t185)))) = some (r1, r2, r3, r4, r5, r6) := h
 clear h
 replace H := tbe H
 obtain ⟨t182, A2, H⟩ := H
 replace H := tbe H
 obtain ⟨t185, A3, H⟩ := H
 simp only [Option.some.injEq, Prod.mk.injEq] at H
 obtain ⟨rfl, rfl, rfl, rfl, rfl, rfl⟩ := H
 go_enter Tryd.func46, Tryd.ntmps46
 go_wp2_with (first | ((with_reducible refine gate_dst (N := 1) rfl ?_); refine box_event ?hg (N := 1) ?hd (cs := #[.int .i64 a0_0, .int .i64 a0_1, .bool a0_2, .slice A0_3 l0_3.length c0_3, .bool a0_4, .slice A0_5 l0_5.length c0_5]) (t := 71) ?hr ?_; (case hd => rfl); (case hg => rfl); (case hr => first | (go_simp; done) | (go_simp; rfl)); intro gb179 hg w4 hbox hb; have BK179 := Aside0.mk (hbox); have GW179 := tge HB hg; have GE179 := tge HB hg; replace HB := tBs HB hb; clear hb hbox hg) | ((with_reducible refine gate_dst (N := 2) rfl ?_); refine box_event ?hg (N := 2) ?hd (cs := #[.int .i64 0, .int .i64 0, .bool false, .slice none 0 0, .bool false, .slice none 0 0]) (t := 62) ?hr ?_; (case hd => rfl); (case hg => rfl); (case hr => first | (go_simp; done) | (go_simp; rfl)); intro gb180 hg w5 hbox hb; have BK180 := Aside0.mk (hbox); have GW180 := tge HB hg; have GE180 := tge HB hg; replace HB := tBs HB hb; have NB179_180 := tlt BK179 hg; have NB180_179 := tgt BK179 hg; replace BK179 := tBb BK179 hb; clear hb hbox hg) | ((with_reducible refine gate_dst (N := 3) rfl ?_); refine box_event ?hg (N := 3) ?hd (cs := #[.int .i64 0, .int .i64 0, .bool false, .slice none 0 0, .bool false, .slice none 0 0]) (t := 62) ?hr ?_; (case hd => rfl); (case hg => rfl); (case hr => first | (go_simp; done) | (go_simp; rfl)); intro gb181 hg w6 hbox hb; have BK181 := Aside0.mk (hbox); have GW181 := tge HB hg; have GE181 := tge HB hg; replace HB := tBs HB hb; have NB179_181 := tlt BK179 hg; have NB181_179 := tgt BK179 hg; replace BK179 := tBb BK179 hb; have NB180_181 := tlt BK180 hg; have NB181_180 := tgt BK180 hg; replace BK180 := tBb BK180 hb; clear hb hbox hg; have hnb7 := NB179_180.out; have hnc7 := NB180_179.out; have hnb8 := NB179_181.out; have hnc8 := NB181_179.out; obtain ⟨hcz9_0, hcz9_1, hcz9_2, hcz9_3, hcz9_4, hcz9_5, hfz9_0, hfz9_1, hfz9_2, hfz9_3, hfz9_4, hfz9_5⟩ := cells6 BK179.out; have hnb10 := NB181_180.out; have hnc10 := NB180_181.out; obtain ⟨hcz11_0, hcz11_1, hcz11_2, hcz11_3, hcz11_4, hcz11_5, hfz11_0, hfz11_1, hfz11_2, hfz11_3, hfz11_4, hfz11_5⟩ := cells6 BK181.out) | ((with_reducible refine gate_callee (f := 57) rfl ?_); refine goesL_ (some 15) rfl rfl Tryd.func57 (by kernel_rfl) rfl #[.slice A0_3 l0_3.length c0_3] rfl tq ?_; (with_reducible refine (laws_toIntS.calls k _ _ l0_3 t182 _ ?side1 ?side2 A2.out).mono ?_); (case side1 => exact Kd.C_below HR0_3.out zb); (case side2 => exact HC0_3.out); rintro e w12 ⟨v183, rfl, ho0, hb⟩; have u_v183 := tsv Tryd.prog v183 ho0; refine ⟨_, rfl, ?_⟩; have HO184 := tRl ho0 HB; replace BK179 := tBb BK179 hb; replace BK180 := tBb BK180 hb; replace BK181 := tBp (o' := .cells #[.int .i64 a0_0, .int .i64 a0_1, .bool a0_2, .slice none 0 0, .bool false, .slice none 0 0] 62 (0, 0)) BK181 hb; replace HB := tBs HB hb; (try clear hb); (try clear hb2); (try clear hk); (try clear hi); (try clear ho0); obtain ⟨Ao13, co13, eo13⟩ := Kd.R_slice HO184.out; subst eo13; obtain ⟨hcz14_0, hcz14_1, hcz14_2, hcz14_3, hcz14_4, hcz14_5, hfz14_0, hfz14_1, hfz14_2, hfz14_3, hfz14_4, hfz14_5⟩ := cells6 BK181.out; obtain ⟨hcz15_0, hcz15_1, hcz15_2, hcz15_3, hcz15_4, hcz15_5, hfz15_0, hfz15_1, hfz15_2, hfz15_3, hfz15_4, hfz15_5⟩ := cells6 BK179.out) | ((with_reducible refine gate_callee (f := 57) rfl ?_); refine goesL_ (some 22) rfl rfl Tryd.func57 (by kernel_rfl) rfl #[.slice A0_5 l0_5.length c0_5] rfl tq ?_; (with_reducible refine (laws_toIntS.calls k _ _ l0_5 t185 _ ?side1 ?side2 A3.out).mono ?_); (case side1 => exact Kd.C_below HR0_5.out zb); (case side2 => exact HC0_5.out); rintro e w16 ⟨v186, rfl, ho0, hb⟩; have u_v186 := tsv Tryd.prog v186 ho0; refine ⟨_, rfl, ?_⟩; have HO187 := Aside0.mk (Kd.R_lower (Kd.R_new' ho0 (Kd.R_lt (tRt HO184.out BK181.out))) (below_size zb)); replace HO184 := Aside0.mk (Kd.R_elder' (tRt HO184.out BK181.out) (Kd.R_base ho0) hb); replace BK179 := tBb BK179 hb; replace BK180 := tBb BK180 hb; replace BK181 := tBp (o' := .cells #[.int .i64 a0_0, .int .i64 a0_1, .bool a0_2, .slice Ao13 t182.length co13, .bool a0_4, .slice none 0 0] 62 (0, 0)) BK181 hb; replace HB := tBs HB hb; (try clear hb); (try clear hb2); (try clear hk); (try clear hi); (try clear ho0); obtain ⟨Ao17, co17, eo17⟩ := Kd.R_slice HO187.out; subst eo17; obtain ⟨hcz18_0, hcz18_1, hcz18_2, hcz18_3, hcz18_4, hcz18_5, hfz18_0, hfz18_1, hfz18_2, hfz18_3, hfz18_4, hfz18_5⟩ := cells6 BK181.out; obtain ⟨hcz19_0, hcz19_1, hcz19_2, hcz19_3, hcz19_4, hcz19_5, hfz19_0, hfz19_1, hfz19_2, hfz19_3, hfz19_4, hfz19_5⟩ := cells6 BK180.out))
 refine bodyPost_ret (results_cell_row rfl _ _ gb180 62 #[.int .i64 a0_0, .int .i64 a0_1, .bool a0_2, .slice Ao13 t182.length co13, .bool a0_4, .slice Ao17 t185.length co17] (0, 0) _ rfl (tP BK180.out) Tryd.underlying62 rfl (by kernel_rfl)) rfl ?_
 exact ⟨_, _, by first | rfl | (simp [errW_none, errW_some] <;> rfl) | (simp [*, errW_none, errW_some] <;> rfl), tRm (Kd.R_types (Kd.R_types HO184.out BK181.out (by decide)) BK180.out (by decide)), tRm (Kd.R_types (Kd.R_types HO187.out BK181.out (by decide)) BK180.out (by decide)), zb⟩

def laws_toRecordS.l0 : Nat → List (S71) → List (S62) → Int → Option ((List (S62)))
 | 0, _, _, _ => none
 | k + 1, x0, x3, x4 => if x4 < (x0.length : Int) then (if 0 ≤ x4 then ((laws_toRecord.f k ((rd_T71 x0 x4).f0) ((rd_T71 x0 x4).f1) ((rd_T71 x0 x4).f2) ((rd_T71 x0 x4).f3) ((rd_T71 x0 x4).f4) ((rd_T71 x0 x4).f5)).bind fun bt192 => (if x4 < (x3.length : Int) then (laws_toRecordS.l0 k x0 (x3.set (x4 : Int).toNat (⟨bt192.1, bt192.2.1, bt192.2.2.1, bt192.2.2.2.1, bt192.2.2.2.2.1, bt192.2.2.2.2.2⟩ : S62)) (wrap64 (x4 + 1))) else (none))) else (none)) else (some x3)
def laws_toRecordS.f (k : Nat) (l0 : List (S71)) : Option ((List (S62))) := if 0 ≤ (l0.length : Int) then (if ((l0.length : Int) : Int).toNat ≤ 3518437208883 then (laws_toRecordS.l0 k l0 (List.replicate ((l0.length : Int) : Int).toNat z62) 0) else (none)) else (none)
set_option maxHeartbeats 8000000 in
set_option maxRecDepth 100000 in
theorem laws_toRecordS.calls (k : Nat) (A0 : Option Addr) (c0 : Nat) (l0 : List (S71)) (r : List (S62)) (w : World) (hr0 : Kd.C k71 w A0 l0.length l0) (hc0 : l0.length ≤ c0) (h : laws_toRecordS.f k l0 = some r) :
  Calls Tryd.prog 28 #[.slice A0 l0.length c0] w fun e w' => ∃ v0_ : Value, e = .returned (v0_) ∧ Kd.S k62 62 w' w.heap.size (fun _ => True) v0_ r ∧ Below w.heap.size w w' := by
 have hu71 := Tryd.underlying71
 have hu62 := Tryd.underlying62
 have HR0 := Aside0.mk hr0
 have HC0 := Aside0.mk hc0
 clear hr0 hc0
 have HB := Aside0.mk (Below.refl w.heap.size w)
 have H : (if 0 ≤ (l0.length : Int) then (if ((l0.length : Int) : Int).toNat ≤ 3518437208883 then (laws_toRecordS.l0 k l0 (List.replicate ((l0.length : Int) : Int).toNat z62) 0) else (none)) else (none)) = some r := h
 clear h
 by_cases c2 : 0 ≤ (l0.length : Int)
 ·rw [if_pos c2] at H
  have c2b0 := eq_true c2
  have c2b1 : decide (0 ≤ (l0.length : Int)) = true := decide_eq_true c2
  clear c2
  by_cases c3 : ((l0.length : Int) : Int).toNat ≤ 3518437208883
  ·rw [if_pos c3] at H
   have c3b0 := eq_true c3
   have c3b1 : decide (((l0.length : Int) : Int).toNat ≤ 3518437208883) = true := decide_eq_true c3
   clear c3
   obtain ⟨y188, hy188⟩ : ∃ y_ : List (S62), y_ = (List.replicate ((l0.length : Int) : Int).toNat z62) := ⟨_, rfl⟩
   replace H : (laws_toRecordS.l0 k l0 y188 0) = some r := by first | (rw [hy188]; with_reducible exact H) | (have H2_ := (Option.bind_some _ _).symm.trans H; rw [hy188]; with_reducible exact H2_) | (have H2_ := (Option.bind_some _ _).symm.trans H; with_reducible exact H2_) | with_reducible exact H | (rw [hy188]; exact H) | exact H
   have Ny188 := Aside0.mk hy188
   clear hy188
   have H' := Aside0.mk H
   clear H
   go_enter Tryd.func28, Tryd.ntmps28
   go_wp2_with (first | ((with_reducible refine gate_dst (N := 7) rfl ?_); refine Kd.S_make k62 _ 62 rfl (N := 7) rfl 26 _ _ rfl (l0.length : Int) rfl rfl Tryd.underlying26 (.agg #[(.int .i64 0), (.int .i64 0), (.bool false), (.slice none 0 0), (.bool false), (.slice none 0 0)]) 80 info62 rfl (by decide) (by omega) z62 (ok := fun _ => True) (okp := fun _ => True) (k62_mkM _ _ _ z62 (Kd.R_nil _ _ _ _ _) (Kd.R_nil _ _ _ _ _)) (fun _ hk => hk) trivial (td) (Nat.le_trans (Nat.mul_le_mul_right _ (td : (l0.length : Int).toNat ≤ 3518437208883)) (by omega)) (Below.refl _ _) (Nat.le_refl _) ?_; intro v189 w4 ho5 hb hg_ hnew_; clear hg_ hnew_; (first | rw [← Ny188.out] at ho5 | (simp only [Int.reduceToNat] at ho5; rw [← Ny188.out] at ho5)); have HO190 := tSl ho5 HB; replace HB := tBs HB hb; clear hb ho5))
   go_loopg [4] k (fun kq v4 w' => ∃ (x3_1 : List (S62)) (x4_1 : Int), v4 = .int .i64 x4_1 ∧ Aside0 (laws_toRecordS.l0 kq l0 x3_1 x4_1 = some r) ∧ Aside0 (kq ≤ k) ∧ Aside0 (Kd.S k62 62 w' w.heap.size (fun _ => True) v189 x3_1) ∧ Aside0 (Below w.heap.size w w'))
   case atStart => exact ⟨(y188), (0), tr, H', ⟨Nat.le_refl _⟩, ⟨tS HO190.out⟩, ⟨zb⟩⟩
   case round =>
    clear H'
    try clear c2; try clear c2b0; try clear c2b1; try clear c3; try clear c3b0; try clear c3b1
    obtain ⟨x3_1, x4_1, rfl, HA, HK1, HO_3, HB⟩ := hrel
    cases gk with
    | zero => exact absurd HA.out (by simp [laws_toRecordS.l0])
    | succ k1 =>
     have H := HA.out
     clear HA
     simp only [laws_toRecordS.l0] at H
     by_cases c6 : x4_1 < (l0.length : Int)
     ·rw [if_pos c6] at H
      have c6b0 : decide (x4_1 < (l0.length : Int)) = true := decide_eq_true c6
      clear c6
      by_cases c7 : 0 ≤ x4_1
      ·rw [if_pos c7] at H
       have c7b0 : decide (0 ≤ x4_1) = true := decide_eq_true c7
       clear c7
       replace H := tbe H
       obtain ⟨⟨t192, t193, t194, t195, t198, t199⟩, A8, H⟩ := H
       dsimp only at H
       by_cases c9 : x4_1 < (x3_1.length : Int)
       ·rw [if_pos c9] at H
        have c9b0 : decide (x4_1 < (x3_1.length : Int)) = true := decide_eq_true c9
        clear c9
        obtain ⟨y202, hy202⟩ : ∃ y_ : List (S62), y_ = (x3_1.set (x4_1 : Int).toNat (⟨t192, t193, t194, t195, t198, t199⟩ : S62)) := ⟨_, rfl⟩
        replace H : (laws_toRecordS.l0 k1 l0 y202 (wrap64 (x4_1 + 1))) = some r := by first | (rw [hy202]; with_reducible exact H) | (have H2_ := (Option.bind_some _ _).symm.trans H; rw [hy202]; with_reducible exact H2_) | (have H2_ := (Option.bind_some _ _).symm.trans H; with_reducible exact H2_) | with_reducible exact H | (rw [hy202]; exact H) | exact H
        have Ny202 := Aside0.mk hy202
        clear hy202
        have H' := Aside0.mk H
        clear H
        have p191 : 0 ≤ (x4_1 : Int) := td
        have q191 : x4_1 < (l0.length : Int) := td
        obtain ⟨ad191, A191_3, c191_3, A191_5, c191_5, e191, hx191_0, hx191_1, hx191_2, hx191_3, hx191_4, hx191_5, hl191_3, hi191_3, hl191_5, hi191_5⟩ := at_T71 HR0.out x4_1 p191 q191
        cases e191
        replace hx191_0 := tcl HB hx191_0
        replace hx191_1 := tcl HB hx191_1
        replace hx191_2 := tcl HB hx191_2
        replace hx191_3 := tcl HB hx191_3
        replace hx191_4 := tcl HB hx191_4
        replace hx191_5 := tcl HB hx191_5
        have HR191_3 := Aside0.mk hi191_3
        have HC191_3 := Aside0.mk hl191_3
        clear hi191_3 hl191_3
        have HR191_5 := Aside0.mk hi191_5
        have HC191_5 := Aside0.mk hl191_5
        clear hi191_5 hl191_5
        replace p191 := eq_true p191
        replace q191 := eq_true q191
        go_wp2_with (first | ((with_reducible refine gate_callee (f := 46) rfl ?_); refine goesL_ (some 20) rfl rfl Tryd.func46 (by kernel_rfl) rfl #[.agg #[.int .i64 ((rd_T71 l0 x4_1).f0), .int .i64 ((rd_T71 l0 x4_1).f1), .bool ((rd_T71 l0 x4_1).f2), .slice A191_3 ((rd_T71 l0 x4_1).f3).length c191_3, .bool ((rd_T71 l0 x4_1).f4), .slice A191_5 ((rd_T71 l0 x4_1).f5).length c191_5]] rfl tq ?_; (with_reducible refine (laws_toRecord.calls k1 ((rd_T71 l0 x4_1).f0) ((rd_T71 l0 x4_1).f1) ((rd_T71 l0 x4_1).f2) _ _ ((rd_T71 l0 x4_1).f3) ((rd_T71 l0 x4_1).f4) _ _ ((rd_T71 l0 x4_1).f5) t192 t193 t194 t195 t198 t199 _ ?side1 ?side2 ?side3 ?side4 A8.out).mono ?_); (case side1 => exact tC (Kd.C_below HR191_3.out HB.out)); (case side2 => exact HC191_3.out); (case side3 => exact tC (Kd.C_below HR191_5.out HB.out)); (case side4 => exact HC191_5.out); rintro e w11 ⟨v196, v200, rfl, ho0, ho1, hb⟩; have u_v196 := tsv Tryd.prog v196 ho0; have u_v200 := tsv Tryd.prog v200 ho1; refine ⟨_, rfl, ?_⟩; replace HO_3 := Aside0.mk (Kd.S_mono (Kd.S_told (Kd.S_told (Kd.S_old (tS HO_3.out) hb) (Kd.R_base ho0)) (Kd.R_base ho1)) (fun _ h_ => h_.1)); have HO197 := tRl ho0 HB; have HO201 := tRl ho1 HB; replace HB := tBs HB hb; (try clear hb); (try clear hb2); (try clear hk); (try clear hi); (try clear ho0); (try clear ho1); have p10 : 0 ≤ (x4_1 : Int) := td; have q10 : (x4_1 : Int) < ((x3_1.length : Int) : Int) := td; obtain ⟨go10, co10, eo10, gb10, gl10, cl10, HG10⟩ := Kd.S_form HO_3.out (by omega); (first | cases eo10 | (injection eo10 with ea_ en_ ec_; (first | subst ea_ | (injection ea_ with ea_; subst ea_)); subst ec_; clear en_)); have GB10 := Aside0.mk gb10; have GG10 := Aside0.mk HG10; clear gb10 gl10 HG10; obtain ⟨_, ce10, hcl10, hM10, hcc10, hfr10, _, _⟩ := Kd.S_elem HO_3.out z62 (x4_1 : Int) p10 q10; obtain ⟨ve10_3, ve10_5, rfl, ge10_3, ge10_5⟩ := k62_openM hM10; have hx10_0 : w11.cell? ⟨go10, (x4_1 : Int).toNat * 6, none⟩ = some (.int .i64 ((rd_T62 x3_1 x4_1).f0)) := hcc10 0 _ rfl; have hx10_1 : w11.cell? ⟨go10, (x4_1 : Int).toNat * 6 + 1, none⟩ = some (.int .i64 ((rd_T62 x3_1 x4_1).f1)) := hcc10 1 _ rfl; have hx10_2 : w11.cell? ⟨go10, (x4_1 : Int).toNat * 6 + 2, none⟩ = some (.bool ((rd_T62 x3_1 x4_1).f2)) := hcc10 2 _ rfl; have hx10_3 : w11.cell? ⟨go10, (x4_1 : Int).toNat * 6 + 3, none⟩ = some (ve10_3) := hcc10 3 _ rfl; have hx10_4 : w11.cell? ⟨go10, (x4_1 : Int).toNat * 6 + 4, none⟩ = some (.bool ((rd_T62 x3_1 x4_1).f4)) := hcc10 4 _ rfl; have hx10_5 : w11.cell? ⟨go10, (x4_1 : Int).toNat * 6 + 5, none⟩ = some (ve10_5) := hcc10 5 _ rfl; have hf10_0 : w11.frozen? ⟨go10, (x4_1 : Int).toNat * 6, none⟩ = false := hfr10 0; have hf10_1 : w11.frozen? ⟨go10, (x4_1 : Int).toNat * 6 + 1, none⟩ = false := hfr10 1; have hf10_2 : w11.frozen? ⟨go10, (x4_1 : Int).toNat * 6 + 2, none⟩ = false := hfr10 2; have hf10_3 : w11.frozen? ⟨go10, (x4_1 : Int).toNat * 6 + 3, none⟩ = false := hfr10 3; have hf10_4 : w11.frozen? ⟨go10, (x4_1 : Int).toNat * 6 + 4, none⟩ = false := hfr10 4; have hf10_5 : w11.frozen? ⟨go10, (x4_1 : Int).toNat * 6 + 5, none⟩ = false := hfr10 5; clear hcl10 hcc10 hfr10 hM10; replace p10 := eq_true p10; replace q10 := eq_true q10; have n_ := Aside0.mk (Kd.S_mono (ok' := (fun k_ => some k_ ≠ (v196 : Value).ownBlock ∧ some k_ ≠ (v200 : Value).ownBlock)) HO_3.out (fun k_ hk => ⟨hk.1.2, hk.2⟩)); clear HO_3; have HO_3 := n_; clear n_; have HX12 := Aside0.mk (show Kd.S k62 62 w11 w.heap.size (fun k_ => ((fun _ => True)) k_ ∧ ¬ ((fun k_ => some k_ = (v196 : Value).ownBlock ∨ some k_ = (v200 : Value).ownBlock)) k_) (.slice (some ⟨go10, 0, none⟩) x3_1.length co10) x3_1 from (tSm HO_3.out)); obtain ⟨oki12, ce12, hcl12, hM12, hcc12, hfr12, hoki12, hH12⟩ := Kd.S_elem HX12.out z62 (x4_1 : Int) (td) (by have h_ : (x4_1 : Int) < ((x3_1.length : Int) : Int) := td; first | exact h_ | (have e_ := (Kd.S_reads' HO_3.out).1; omega) | simpa using h_); obtain ⟨ve12_3, ve12_5, rfl, ge12_3, ge12_5⟩ := k62_openM hM12; have HP12 := Kd.S_seg hH12 (td) (by have h_ : (x4_1 : Int) < ((x3_1.length : Int) : Int) := td; first | exact h_ | (have e_ := (Kd.S_reads' HO_3.out).1; omega) | simpa using h_) (seg := [.int .i64 t192, .int .i64 t193, .bool t194, v196, .bool t198, v200]) (j := 0) (show 6 ≤ 6 from by decide) (x' := (⟨t192, t193, t194, t195, t198, t199⟩ : S62)) (k62_mkM _ _ _ (⟨t192, t193, t194, t195, t198, t199⟩ : S62) (Kd.R_mono (Kd.R_tight rfl (Kd.R_mono (ok' := fun k_ => ((fun _ => True)) k_ ∧ k_ ≠ go10) (Kd.R_apart' (HO197.out) (Kd.S_typed HO_3.out) (by decide)) (fun k_ hk => ⟨trivial, fun e_ => (hk.2) (by rw [e_]; rfl)⟩))) (fun _ h_ => Or.inr (Or.inl h_))) (Kd.R_mono (Kd.R_tight rfl (Kd.R_mono (ok' := fun k_ => ((fun _ => True)) k_ ∧ k_ ≠ go10) (Kd.R_apart' (HO201.out) (Kd.S_typed HO_3.out) (by decide)) (fun k_ hk => ⟨trivial, fun e_ => (hk.2) (by rw [e_]; rfl)⟩))) (fun _ h_ => Or.inr (Or.inr (h_))))) (fun _ hk => hk) (fun k_ hk_ => hk_.elim (fun h_ => ((Kd.R_mono (ok' := fun k_ => ((fun _ => True)) k_ ∧ k_ ≠ go10) (Kd.R_apart' (HO197.out) (Kd.S_typed HO_3.out) (by decide)) (fun k_ hk => ⟨trivial, fun e_ => (hk.2) (by rw [e_]; rfl)⟩))).1 k_ h_.symm) (fun h_ => ((Kd.R_mono (ok' := fun k_ => ((fun _ => True)) k_ ∧ k_ ≠ go10) (Kd.R_apart' (HO201.out) (Kd.S_typed HO_3.out) (by decide)) (fun k_ hk => ⟨trivial, fun e_ => (hk.2) (by rw [e_]; rfl)⟩))).1 k_ h_.symm)); have hx12_0 := hcc12 0 _ rfl; (try simp only [show (k62).sz = 6 from rfl, Nat.mul_one, Nat.add_zero] at hx12_0); have hf12_0 := hfr12 0; (try simp only [show (k62).sz = 6 from rfl, Nat.mul_one, Nat.add_zero] at hf12_0); have hx12_1 := hcc12 1 _ rfl; (try simp only [show (k62).sz = 6 from rfl, Nat.mul_one, Nat.add_zero] at hx12_1); have hf12_1 := hfr12 1; (try simp only [show (k62).sz = 6 from rfl, Nat.mul_one, Nat.add_zero] at hf12_1); have hx12_2 := hcc12 2 _ rfl; (try simp only [show (k62).sz = 6 from rfl, Nat.mul_one, Nat.add_zero] at hx12_2); have hf12_2 := hfr12 2; (try simp only [show (k62).sz = 6 from rfl, Nat.mul_one, Nat.add_zero] at hf12_2); have hx12_3 := hcc12 3 _ rfl; (try simp only [show (k62).sz = 6 from rfl, Nat.mul_one, Nat.add_zero] at hx12_3); have hf12_3 := hfr12 3; (try simp only [show (k62).sz = 6 from rfl, Nat.mul_one, Nat.add_zero] at hf12_3); have hx12_4 := hcc12 4 _ rfl; (try simp only [show (k62).sz = 6 from rfl, Nat.mul_one, Nat.add_zero] at hx12_4); have hf12_4 := hfr12 4; (try simp only [show (k62).sz = 6 from rfl, Nat.mul_one, Nat.add_zero] at hf12_4); have hx12_5 := hcc12 5 _ rfl; (try simp only [show (k62).sz = 6 from rfl, Nat.mul_one, Nat.add_zero] at hx12_5); have hf12_5 := hfr12 5; (try simp only [show (k62).sz = 6 from rfl, Nat.mul_one, Nat.add_zero] at hf12_5); clear hcl12 hcc12 hfr12 hM12 hoki12 hH12) | ((with_reducible refine gate_store (t := 62) (p := 21) rfl ?_); refine store_event (t := 62) (p := 21) (v := ?vo_w13) (w1 := ((((((w11.setCell ⟨go10, (x4_1 : Int).toNat * 6, none⟩ (.int .i64 t192)).setCell ⟨go10, (x4_1 : Int).toNat * 6 + 1, none⟩ (.int .i64 t193)).setCell ⟨go10, (x4_1 : Int).toNat * 6 + 2, none⟩ (.bool t194)).setCell ⟨go10, (x4_1 : Int).toNat * 6 + 3, none⟩ (v196)).setCell ⟨go10, (x4_1 : Int).toNat * 6 + 4, none⟩ (.bool t198)).setCell ⟨go10, (x4_1 : Int).toNat * 6 + 5, none⟩ (v200))) ?hg ?ho ?hn ?hr ?_; (case ho => rfl); (case hg => rfl); (case hn => rfl); (case hr => first | (go_simp; done) | (go_simp; rfl)); intro w13 hw; have hg : w11.grownBy w13 (some go10) := (by rw [hw]; exact HP12.2); have hp_ : Kd.S k62 62 w13 w.heap.size (fun _ => True) (.slice (some ⟨go10, 0, none⟩) x3_1.length co10) y202 := (by rw [hw, Ny202.out]; exact HP12.1); clear HP12; replace HO_3 := Aside0.mk (hp_); replace HB := Aside0.mk ((by rw [hw]; exact below_set (below_set (below_set (below_set (below_set (below_set (HB.out) GB10.out) GB10.out) GB10.out) GB10.out) GB10.out) GB10.out : Below w.heap.size w w13)); clear HO197 HO201; clear hg hw hp_))
        go_roundg k1
        case measure => have := HK1.out; omega
        case rel => exact ⟨(y202), (wrap64 (x4_1 + 1)), tr, H', ⟨by have := HK1.out; omega⟩, ⟨tS HO_3.out⟩, ⟨zb⟩⟩
       ·rw [if_neg c9] at H
        exact absurd H (by simp)
      ·rw [if_neg c7] at H
       exact absurd H (by simp)
     ·rw [if_neg c6] at H
      have c6b0 : decide (x4_1 < (l0.length : Int)) = false := decide_eq_false c6
      clear c6
      obtain rfl := Option.some.inj H
      go_wp2
      go_ret
      exact ⟨_, by first | rfl | (simp [errW_none, errW_some] <;> rfl) | (simp [*, errW_none, errW_some] <;> rfl), tS HO_3.out, zb⟩
  ·rw [if_neg c3] at H
   exact absurd H (by simp)
 ·rw [if_neg c2] at H
  exact absurd H (by simp)

def laws_toBatch.f (k : Nat) (a0_0 : Bool) (a0_1 : Bool) (a0_2 : Int) (a0_3 : Int) (a0_4 : Int) (l0_5 : List (S71)) : Option (Bool × Bool × Int × Int × Int × (List (S62))) := (laws_toRecordS.f k l0_5).bind fun t206 => (some (a0_0, a0_1, a0_2, a0_3, a0_4, t206))
set_option maxHeartbeats 8000000 in
set_option maxRecDepth 100000 in
theorem laws_toBatch.calls (k : Nat) (a0_0 : Bool) (a0_1 : Bool) (a0_2 : Int) (a0_3 : Int) (a0_4 : Int) (A0_5 : Option Addr) (c0_5 : Nat) (l0_5 : List (S71)) (r1 : Bool) (r2 : Bool) (r3 : Int) (r4 : Int) (r5 : Int) (r6 : List (S62)) (w : World) (hr0_5 : Kd.C k71 w A0_5 l0_5.length l0_5) (hc0_5 : l0_5.length ≤ c0_5) (h : laws_toBatch.f k a0_0 a0_1 a0_2 a0_3 a0_4 l0_5 = some (r1, r2, r3, r4, r5, r6)) :
  Calls Tryd.prog 9 #[.agg #[.bool a0_0, .bool a0_1, .int .i64 a0_2, .int .i64 a0_3, .int .i64 a0_4, .slice A0_5 l0_5.length c0_5]] w fun e w' => ∃ v5_ : Value, e = .returned (.agg #[.bool r1, .bool r2, .int .i64 r3, .int .i64 r4, .int .i64 r5, v5_]) ∧ Kd.S k62 62 w' w.heap.size (fun _ => True) v5_ r6 ∧ Below w.heap.size w w' := by
 have hu24 := Tryd.underlying24
 have hu28 := Tryd.underlying28
 have HR0_5 := Aside0.mk hr0_5
 have HC0_5 := Aside0.mk hc0_5
 clear hr0_5 hc0_5
 have HB := Aside0.mk (Below.refl w.heap.size w)
 have H : ((laws_toRecordS.f k l0_5).bind fun t206 => (some (a0_0, a0_1, a0_2, a0_3, a0_4, t206))) = some (r1, r2, r3, r4, r5, r6) := h
 clear h
 replace H := tbe H
 obtain ⟨t206, A2, H⟩ := H
 simp only [Option.some.injEq, Prod.mk.injEq] at H
 obtain ⟨rfl, rfl, rfl, rfl, rfl, rfl⟩ := H
 go_enter Tryd.func9, Tryd.ntmps9
 go_wp2_with (first | ((with_reducible refine gate_dst (N := 1) rfl ?_); refine box_event ?hg (N := 1) ?hd (cs := #[.bool a0_0, .bool a0_1, .int .i64 a0_2, .int .i64 a0_3, .int .i64 a0_4, .slice A0_5 l0_5.length c0_5]) (t := 24) ?hr ?_; (case hd => rfl); (case hg => rfl); (case hr => first | (go_simp; done) | (go_simp; rfl)); intro gb203 hg w3 hbox hb; have BK203 := Aside0.mk (hbox); have GW203 := tge HB hg; have GE203 := tge HB hg; replace HB := tBs HB hb; clear hb hbox hg) | ((with_reducible refine gate_dst (N := 2) rfl ?_); refine box_event ?hg (N := 2) ?hd (cs := #[.bool false, .bool false, .int .i64 0, .int .i64 0, .int .i64 0, .slice none 0 0]) (t := 28) ?hr ?_; (case hd => rfl); (case hg => rfl); (case hr => first | (go_simp; done) | (go_simp; rfl)); intro gb204 hg w4 hbox hb; have BK204 := Aside0.mk (hbox); have GW204 := tge HB hg; have GE204 := tge HB hg; replace HB := tBs HB hb; have NB203_204 := tlt BK203 hg; have NB204_203 := tgt BK203 hg; replace BK203 := tBb BK203 hb; clear hb hbox hg) | ((with_reducible refine gate_dst (N := 3) rfl ?_); refine box_event ?hg (N := 3) ?hd (cs := #[.bool false, .bool false, .int .i64 0, .int .i64 0, .int .i64 0, .slice none 0 0]) (t := 28) ?hr ?_; (case hd => rfl); (case hg => rfl); (case hr => first | (go_simp; done) | (go_simp; rfl)); intro gb205 hg w5 hbox hb; have BK205 := Aside0.mk (hbox); have GW205 := tge HB hg; have GE205 := tge HB hg; replace HB := tBs HB hb; have NB203_205 := tlt BK203 hg; have NB205_203 := tgt BK203 hg; replace BK203 := tBb BK203 hb; have NB204_205 := tlt BK204 hg; have NB205_204 := tgt BK204 hg; replace BK204 := tBb BK204 hb; clear hb hbox hg; have hnb6 := NB203_204.out; have hnc6 := NB204_203.out; have hnb7 := NB203_205.out; have hnc7 := NB205_203.out; obtain ⟨hcz8_0, hcz8_1, hcz8_2, hcz8_3, hcz8_4, hcz8_5, hfz8_0, hfz8_1, hfz8_2, hfz8_3, hfz8_4, hfz8_5⟩ := cells6 BK203.out; have hnb9 := NB205_204.out; have hnc9 := NB204_205.out; obtain ⟨hcz10_0, hcz10_1, hcz10_2, hcz10_3, hcz10_4, hcz10_5, hfz10_0, hfz10_1, hfz10_2, hfz10_3, hfz10_4, hfz10_5⟩ := cells6 BK205.out) | ((with_reducible refine gate_callee (f := 28) rfl ?_); refine goesL_ (some 21) rfl rfl Tryd.func28 (by kernel_rfl) rfl #[.slice A0_5 l0_5.length c0_5] rfl tq ?_; (with_reducible refine (laws_toRecordS.calls k _ _ l0_5 t206 _ ?side1 ?side2 A2.out).mono ?_); (case side1 => exact Kd.C_below HR0_5.out zb); (case side2 => exact HC0_5.out); rintro e w11 ⟨v207, rfl, ho0, hb⟩; have u_v207 := tsv Tryd.prog v207 ho0; refine ⟨_, rfl, ?_⟩; have HO208 := tSl ho0 HB; replace BK203 := tBb BK203 hb; replace BK204 := tBb BK204 hb; replace BK205 := tBp (o' := .cells #[.bool a0_0, .bool a0_1, .int .i64 a0_2, .int .i64 a0_3, .int .i64 a0_4, .slice none 0 0] 28 (0, 0)) BK205 hb; replace HB := tBs HB hb; (try clear hb); (try clear hb2); (try clear hk); (try clear hi); (try clear ho0); obtain ⟨Ao12, co12, eo12⟩ := Kd.S_slice HO208.out; subst eo12; obtain ⟨hcz13_0, hcz13_1, hcz13_2, hcz13_3, hcz13_4, hcz13_5, hfz13_0, hfz13_1, hfz13_2, hfz13_3, hfz13_4, hfz13_5⟩ := cells6 BK205.out; obtain ⟨hcz14_0, hcz14_1, hcz14_2, hcz14_3, hcz14_4, hcz14_5, hfz14_0, hfz14_1, hfz14_2, hfz14_3, hfz14_4, hfz14_5⟩ := cells6 BK204.out))
 refine bodyPost_ret (results_cell_row rfl _ _ gb204 28 #[.bool a0_0, .bool a0_1, .int .i64 a0_2, .int .i64 a0_3, .int .i64 a0_4, .slice Ao12 t206.length co12] (0, 0) _ rfl (tP BK204.out) Tryd.underlying28 rfl (by kernel_rfl)) rfl ?_
 exact ⟨_, by first | rfl | (simp [errW_none, errW_some] <;> rfl) | (simp [*, errW_none, errW_some] <;> rfl), tSm (Kd.S_types (Kd.S_types HO208.out BK205.out (by decide)) BK204.out (by decide)), zb⟩

end Go.Proofs.YtfjkpdhldeopaaaDoor.G

namespace Go.Proofs.YtfjkpdhldeopaaaDoor.G
open Go.RowKit Go.Proofs.YtfjkpdhldeopaaaDoorW.PrintWords Go.Proofs.YtfjkpdhldeopaaaDoorW.PrintLast Go.Proofs.YtfjkpdhldeopaaaDoorW.PrintMore
attribute [local go_sem] max2_int min2_int max_two min_two max_three min_three max_four min_four   -- for this text's walks alone
set_option linter.unusedVariables false
set_option linter.unusedSimpArgs false

def spec_l12Batch.l0 : Nat → List (S62) → Int → Bool → Bool → Int → Int → Int → List (S62) → Option (Bool × Bool × Int × Int × Int × (List (S62)))
 | 0, _, _, _, _, _, _, _, _ => none
 | k + 1, x3, x4, x401000, x401001, x401002, x401003, x401004, x401005 => if x4 < (x401005.length : Int) then (if 0 ≤ x4 then ((spec_l12Copy.f ((rd_T62 x401005 x4).f0) ((rd_T62 x401005 x4).f1) ((rd_T62 x401005 x4).f2) ((rd_T62 x401005 x4).f3) ((rd_T62 x401005 x4).f4) ((rd_T62 x401005 x4).f5)).bind fun bt406 => (if x3.length < 1759218604441 then (spec_l12Batch.l0 k (x3 ++ [(⟨bt406.1, bt406.2.1, bt406.2.2.1, bt406.2.2.2.1, bt406.2.2.2.2.1, bt406.2.2.2.2.2⟩ : S62)]) (wrap64 (x4 + 1)) x401000 x401001 x401002 x401003 x401004 x401005) else (none))) else (none)) else (some (x401000, x401001, x401002, x401003, x401004, x3))
def spec_l12Batch.f (k : Nat) (a0_0 : Bool) (a0_1 : Bool) (a0_2 : Int) (a0_3 : Int) (a0_4 : Int) (l0_5 : List (S62)) : Option (Bool × Bool × Int × Int × Int × (List (S62))) := spec_l12Batch.l0 k (([] : List (S62))) 0 a0_0 a0_1 a0_2 a0_3 a0_4 l0_5
set_option maxHeartbeats 8000000 in
set_option maxRecDepth 100000 in
theorem spec_l12Batch.calls (k : Nat) (a0_0 : Bool) (a0_1 : Bool) (a0_2 : Int) (a0_3 : Int) (a0_4 : Int) (A0_5 : Option Addr) (c0_5 : Nat) (l0_5 : List (S62)) (r1 : Bool) (r2 : Bool) (r3 : Int) (r4 : Int) (r5 : Int) (r6 : List (S62)) (w : World) (hr0_5 : Kd.C k62 w A0_5 l0_5.length l0_5) (hc0_5 : l0_5.length ≤ c0_5) (h : spec_l12Batch.f k a0_0 a0_1 a0_2 a0_3 a0_4 l0_5 = some (r1, r2, r3, r4, r5, r6)) :
  Calls Tryd.prog 37 #[.agg #[.bool a0_0, .bool a0_1, .int .i64 a0_2, .int .i64 a0_3, .int .i64 a0_4, .slice A0_5 l0_5.length c0_5]] w fun e w' => ∃ v5_ : Value, e = .returned (.agg #[.bool r1, .bool r2, .int .i64 r3, .int .i64 r4, .int .i64 r5, v5_]) ∧ Kd.S k62 62 w' w.heap.size (fun _ => True) v5_ r6 ∧ Below w.heap.size w w' := by
 have hu28 := Tryd.underlying28
 have hu62 := Tryd.underlying62
 have HR0_5 := Aside0.mk hr0_5
 have HC0_5 := Aside0.mk hc0_5
 clear hr0_5 hc0_5
 have HB := Aside0.mk (Below.refl w.heap.size w)
 have H : (spec_l12Batch.l0 k (([] : List (S62))) 0 a0_0 a0_1 a0_2 a0_3 a0_4 l0_5) = some (r1, r2, r3, r4, r5, r6) := h
 clear h
 obtain ⟨y402, hy402⟩ : ∃ y_ : List (S62), y_ = (([] : List (S62))) := ⟨_, rfl⟩
 replace H : (spec_l12Batch.l0 k y402 0 a0_0 a0_1 a0_2 a0_3 a0_4 l0_5) = some (r1, r2, r3, r4, r5, r6) := by first | (rw [hy402]; with_reducible exact H) | (have H2_ := (Option.bind_some _ _).symm.trans H; rw [hy402]; with_reducible exact H2_) | (have H2_ := (Option.bind_some _ _).symm.trans H; with_reducible exact H2_) | with_reducible exact H | (rw [hy402]; exact H) | exact H
 have Ny402 := Aside0.mk hy402
 clear hy402
 have H' := Aside0.mk H
 clear H
 go_enter Tryd.func37, Tryd.ntmps37
 go_wp2_with (first | ((with_reducible refine gate_dst (N := 1) rfl ?_); refine box_event ?hg (N := 1) ?hd (cs := #[.bool a0_0, .bool a0_1, .int .i64 a0_2, .int .i64 a0_3, .int .i64 a0_4, .slice A0_5 l0_5.length c0_5]) (t := 28) ?hr ?_; (case hd => rfl); (case hg => rfl); (case hr => first | (go_simp; done) | (go_simp; rfl)); intro gb400 hg w2 hbox hb; have BK400 := Aside0.mk (hbox); have GW400 := tge HB hg; have GE400 := tge HB hg; replace HB := tBs HB hb; clear hb hbox hg) | ((with_reducible refine gate_dst (N := 2) rfl ?_); refine box_event ?hg (N := 2) ?hd (cs := #[.bool false, .bool false, .int .i64 0, .int .i64 0, .int .i64 0, .slice none 0 0]) (t := 28) ?hr ?_; (case hd => rfl); (case hg => rfl); (case hr => first | (go_simp; done) | (go_simp; rfl)); intro gb401 hg w3 hbox hb; have BK401 := Aside0.mk (hbox); have GW401 := tge HB hg; have GE401 := tge HB hg; replace HB := tBs HB hb; have NB400_401 := tlt BK400 hg; have NB401_400 := tgt BK400 hg; replace BK400 := tBb BK400 hb; clear hb hbox hg) | ((with_reducible refine gate_dst (N := 5) rfl ?_); refine Kd.S_lit k62 _ 62 ?hg (N := 5) ?hd (xs := ([] : List (S62))) (inner := []) (ok := fun _ => True) (okp := fun _ => True) ?hr ?hp (fun _ hk => hk) trivial (Below.refl _ _) (Nat.le_refl _) (by simp) ?_; (case hd => rfl); (case hg => rfl); (case hr => first | (go_simp; done) | (go_simp; rfl)); (case hp => exact (Reps.none _ _)); intro v403 w4 ho5 hb hg_ hnew_; clear hg_ hnew_; (first | rw [← Ny402.out] at ho5 | (simp only [Int.reduceToNat] at ho5; rw [← Ny402.out] at ho5)); have HO404 := tSl ho5 HB; replace BK400 := tBb BK400 hb; replace BK401 := tBb BK401 hb; replace HB := tBs HB hb; clear hb ho5))
 go_loopg [3, 4] k (fun kq v3 v4 w' => ∃ (x3_1 : List (S62)) (x4_1 : Int), v4 = .int .i64 x4_1 ∧ Aside0 (spec_l12Batch.l0 kq x3_1 x4_1 a0_0 a0_1 a0_2 a0_3 a0_4 l0_5 = some (r1, r2, r3, r4, r5, r6)) ∧ Aside0 (kq ≤ k) ∧ Aside0 (Kd.S k62 62 w' w.heap.size (fun _ => True) v3 x3_1) ∧ Aside0 (w'.heap[gb400]? = some (.cells #[.bool a0_0, .bool a0_1, .int .i64 a0_2, .int .i64 a0_3, .int .i64 a0_4, (.slice A0_5 l0_5.length c0_5)] 28 (0, 0))) ∧ Aside0 (w'.heap[gb401]? = some (.cells #[.bool false, .bool false, .int .i64 0, .int .i64 0, .int .i64 0, (.slice none 0 0)] 28 (0, 0))) ∧ Aside0 (Below w.heap.size w w'))
 case atStart => exact ⟨(y402), (0), tr, H', ⟨Nat.le_refl _⟩, ⟨tS HO404.out⟩, ⟨tH BK400.out⟩, ⟨tH BK401.out⟩, ⟨zb⟩⟩
 case round =>
  clear H'
  obtain ⟨x3_1, x4_1, rfl, HA, HK1, HO_3, BK400, BK401, HB⟩ := hrel
  cases gk with
  | zero => exact absurd HA.out (by simp [spec_l12Batch.l0])
  | succ k1 =>
   have H := HA.out
   clear HA
   simp only [spec_l12Batch.l0] at H
   by_cases c6 : x4_1 < (l0_5.length : Int)
   ·rw [if_pos c6] at H
    have c6b0 : decide (x4_1 < (l0_5.length : Int)) = true := decide_eq_true c6
    clear c6
    by_cases c7 : 0 ≤ x4_1
    ·rw [if_pos c7] at H
     have c7b0 : decide (0 ≤ x4_1) = true := decide_eq_true c7
     clear c7
     replace H := tbe H
     obtain ⟨⟨t406, t407, t408, t409, t412, t413⟩, A8, H⟩ := H
     dsimp only at H
     by_cases c9 : x3_1.length < 1759218604441
     ·rw [if_pos c9] at H
      have LMc9 := Aside0.mk c9
      clear c9
      obtain ⟨y416, hy416⟩ : ∃ y_ : List (S62), y_ = (x3_1 ++ [(⟨t406, t407, t408, t409, t412, t413⟩ : S62)]) := ⟨_, rfl⟩
      replace H : (spec_l12Batch.l0 k1 y416 (wrap64 (x4_1 + 1)) a0_0 a0_1 a0_2 a0_3 a0_4 l0_5) = some (r1, r2, r3, r4, r5, r6) := by first | (rw [hy416]; with_reducible exact H) | (have H2_ := (Option.bind_some _ _).symm.trans H; rw [hy416]; with_reducible exact H2_) | (have H2_ := (Option.bind_some _ _).symm.trans H; with_reducible exact H2_) | with_reducible exact H | (rw [hy416]; exact H) | exact H
      have Ny416 := Aside0.mk hy416
      clear hy416
      have H' := Aside0.mk H
      clear H
      have hnb10 := NB400_401.out
      have hnc10 := NB401_400.out
      obtain ⟨hcz11_0, hcz11_1, hcz11_2, hcz11_3, hcz11_4, hcz11_5, hfz11_0, hfz11_1, hfz11_2, hfz11_3, hfz11_4, hfz11_5⟩ := cells6 BK400.out
      have p405 : 0 ≤ (x4_1 : Int) := td
      have q405 : x4_1 < (l0_5.length : Int) := td
      obtain ⟨ad405, A405_3, c405_3, A405_5, c405_5, e405, hx405_0, hx405_1, hx405_2, hx405_3, hx405_4, hx405_5, hl405_3, hi405_3, hl405_5, hi405_5⟩ := at_T62 HR0_5.out x4_1 p405 q405
      cases e405
      replace hx405_0 := tcl HB hx405_0
      replace hx405_1 := tcl HB hx405_1
      replace hx405_2 := tcl HB hx405_2
      replace hx405_3 := tcl HB hx405_3
      replace hx405_4 := tcl HB hx405_4
      replace hx405_5 := tcl HB hx405_5
      have HR405_3 := Aside0.mk hi405_3
      have HC405_3 := Aside0.mk hl405_3
      clear hi405_3 hl405_3
      have HR405_5 := Aside0.mk hi405_5
      have HC405_5 := Aside0.mk hl405_5
      clear hi405_5 hl405_5
      replace p405 := eq_true p405
      replace q405 := eq_true q405
      go_wp2_with (first | ((with_reducible refine gate_callee (f := 45) rfl ?_); refine goesL_ (some 19) rfl rfl Tryd.func45 (by kernel_rfl) rfl #[.agg #[.int .i64 ((rd_T62 l0_5 x4_1).f0), .int .i64 ((rd_T62 l0_5 x4_1).f1), .bool ((rd_T62 l0_5 x4_1).f2), .slice A405_3 ((rd_T62 l0_5 x4_1).f3).length c405_3, .bool ((rd_T62 l0_5 x4_1).f4), .slice A405_5 ((rd_T62 l0_5 x4_1).f5).length c405_5]] rfl tq ?_; (with_reducible refine (spec_l12Copy.calls ((rd_T62 l0_5 x4_1).f0) ((rd_T62 l0_5 x4_1).f1) ((rd_T62 l0_5 x4_1).f2) _ _ ((rd_T62 l0_5 x4_1).f3) ((rd_T62 l0_5 x4_1).f4) _ _ ((rd_T62 l0_5 x4_1).f5) t406 t407 t408 t409 t412 t413 _ ?side1 ?side2 ?side3 ?side4 A8.out).mono ?_); (case side1 => exact tC (Kd.C_below HR405_3.out HB.out)); (case side2 => exact HC405_3.out); (case side3 => exact tC (Kd.C_below HR405_5.out HB.out)); (case side4 => exact HC405_5.out); rintro e w12 ⟨v410, v414, rfl, ho0, ho1, hb⟩; have u_v410 := tsv Tryd.prog v410 ho0; have u_v414 := tsv Tryd.prog v414 ho1; refine ⟨_, rfl, ?_⟩; replace HO_3 := Aside0.mk (Kd.S_mono (Kd.S_told (Kd.S_told (Kd.S_old (tS HO_3.out) hb) (Kd.R_base ho0)) (Kd.R_base ho1)) (fun _ h_ => h_.1)); have HO411 := tRl ho0 HB; have HO415 := tRl ho1 HB; replace BK400 := tBb BK400 hb; replace BK401 := tBb BK401 hb; replace HB := tBs HB hb; (try clear hb); (try clear hb2); (try clear hk); (try clear hi); (try clear ho0); (try clear ho1); obtain ⟨Ao14, co14, eo14⟩ := Kd.R_slice HO411.out; subst eo14; obtain ⟨Ao15, co15, eo15⟩ := Kd.R_slice HO415.out; subst eo15) | ((with_reducible refine gate_builtin (b := .append) (xs := #[.tmp 13, .tmp 20]) rfl ?_); at_builtin; refine Kd.S_append k62 (w0 := w) w.heap.size rfl (.tmp 13) (.tmp 20) 26 62 (.agg #[(.int .i64 0), (.int .i64 0), (.bool false), (.slice none 0 0), (.bool false), (.slice none 0 0)]) 80 rfl Tryd.underlying26 info62 rfl (by decide) (by omega) u3 x3_1 (⟨t406, t407, t408, t409, t412, t413⟩ : S62) [.int .i64 t406, .int .i64 t407, .bool t408, .slice Ao14 t409.length co14, .bool t412, .slice Ao15 t413.length co15] (fun _ => True) (fun k_ => some k_ = (.slice Ao14 t409.length co14 : Value).ownBlock ∨ some k_ = (.slice Ao15 t413.length co15 : Value).ownBlock) rfl rfl ?aP (fun k_ hk_ => hk_.elim (fun h_ => ((Kd.R_mono (ok' := fun k_ => ((fun _ => True)) k_ ∧ some k_ ≠ (u3 : Value).ownBlock) (Kd.R_apart' (HO411.out) (Kd.S_typed HO_3.out) (by decide)) (fun k_ hk => ⟨trivial, hk.2⟩))).1 k_ h_.symm) (fun h_ => ((Kd.R_mono (ok' := fun k_ => ((fun _ => True)) k_ ∧ some k_ ≠ (u3 : Value).ownBlock) (Kd.R_apart' (HO415.out) (Kd.S_typed HO_3.out) (by decide)) (fun k_ hk => ⟨trivial, hk.2⟩))).1 k_ h_.symm)) ?aF ?aO ?aB ?aS ?aL ?_; (case aP => exact k62_mkM _ _ _ (⟨t406, t407, t408, t409, t412, t413⟩ : S62) (Kd.R_mono (Kd.R_tight rfl (Kd.R_mono (ok' := fun k_ => ((fun _ => True)) k_ ∧ some k_ ≠ (u3 : Value).ownBlock) (Kd.R_apart' (HO411.out) (Kd.S_typed HO_3.out) (by decide)) (fun k_ hk => ⟨trivial, hk.2⟩))) (fun _ h_ => Or.inl h_)) (Kd.R_mono (Kd.R_tight rfl (Kd.R_mono (ok' := fun k_ => ((fun _ => True)) k_ ∧ some k_ ≠ (u3 : Value).ownBlock) (Kd.R_apart' (HO415.out) (Kd.S_typed HO_3.out) (by decide)) (fun k_ hk => ⟨trivial, hk.2⟩))) (fun _ h_ => Or.inr (h_)))); (case aB => exact zb); (case aF => exact (fun _ _ => trivial)); (case aO => exact (tSm HO_3.out)); (case aS => exact (below_size zb)); (case aL => have := LMc9.out; omega); intro v417 w13 ho hb hg hat; rw [← Ny416.out] at ho; replace BK400 := Aside0.mk (blk_grown (tH BK400.out) hg (Kd.S_ne HO_3.out BK400.out (by decide))); replace BK401 := Aside0.mk (blk_grown (tH BK401.out) hg (Kd.S_ne HO_3.out BK401.out (by decide))); replace HB := Aside0.mk (hb); have HO418 := Aside0.mk (ho); clear HO_3 HO411 HO415; clear ho hb hg hat))
      go_roundg k1
      case measure => have := HK1.out; omega
      case rel => exact ⟨(y416), (wrap64 (x4_1 + 1)), tr, H', ⟨by have := HK1.out; omega⟩, ⟨tS HO418.out⟩, ⟨tH BK400.out⟩, ⟨tH BK401.out⟩, ⟨zb⟩⟩
     ·rw [if_neg c9] at H
      exact absurd H (by simp)
    ·rw [if_neg c7] at H
     exact absurd H (by simp)
   ·rw [if_neg c6] at H
    have c6b0 : decide (x4_1 < (l0_5.length : Int)) = false := decide_eq_false c6
    clear c6
    simp only [Option.some.injEq, Prod.mk.injEq] at H
    obtain ⟨rfl, rfl, rfl, rfl, rfl, rfl⟩ := H
    have hnb16 := NB400_401.out
    have hnc16 := NB401_400.out
    obtain ⟨hcz17_0, hcz17_1, hcz17_2, hcz17_3, hcz17_4, hcz17_5, hfz17_0, hfz17_1, hfz17_2, hfz17_3, hfz17_4, hfz17_5⟩ := cells6 BK400.out
    obtain ⟨Ao18, co18, eo18⟩ := Kd.S_slice HO_3.out
    subst eo18
    obtain ⟨hcz19_0, hcz19_1, hcz19_2, hcz19_3, hcz19_4, hcz19_5, hfz19_0, hfz19_1, hfz19_2, hfz19_3, hfz19_4, hfz19_5⟩ := cells6 BK401.out
    go_wp2
    refine bodyPost_ret (results_cell_row rfl _ _ gb401 28 #[.bool a0_0, .bool a0_1, .int .i64 a0_2, .int .i64 a0_3, .int .i64 a0_4, .slice Ao18 x3_1.length co18] (0, 0) _ rfl (tP BK401.out) Tryd.underlying28 rfl (by kernel_rfl)) rfl ?_
    exact ⟨_, by first | rfl | (simp [errW_none, errW_some] <;> rfl) | (simp [*, errW_none, errW_some] <;> rfl), tSm (Kd.S_types (Kd.S_types HO_3.out BK400.out (by decide)) BK401.out (by decide)), zb⟩

def laws_toBatchS.l0 : Nat → List (S24) → List (S28) → Int → Option ((List (S28)))
 | 0, _, _, _ => none
 | k + 1, x0, x3, x4 => if x4 < (x0.length : Int) then (if 0 ≤ x4 then ((laws_toBatch.f k ((rd_T24 x0 x4).f0) ((rd_T24 x0 x4).f1) ((rd_T24 x0 x4).f2) ((rd_T24 x0 x4).f3) ((rd_T24 x0 x4).f4) ((rd_T24 x0 x4).f5)).bind fun bt469 => (if x4 < (x3.length : Int) then (laws_toBatchS.l0 k x0 (x3.set (x4 : Int).toNat (⟨bt469.1, bt469.2.1, bt469.2.2.1, bt469.2.2.2.1, bt469.2.2.2.2.1, bt469.2.2.2.2.2⟩ : S28)) (wrap64 (x4 + 1))) else (none))) else (none)) else (some x3)
def laws_toBatchS.f (k : Nat) (l0 : List (S24)) : Option ((List (S28))) := if 0 ≤ (l0.length : Int) then (if ((l0.length : Int) : Int).toNat ≤ 5026338869833 then (laws_toBatchS.l0 k l0 (List.replicate ((l0.length : Int) : Int).toNat z28) 0) else (none)) else (none)
end Go.Proofs.YtfjkpdhldeopaaaDoor.G

namespace Go.Proofs.YtfjkpdhldeopaaaDoor.G
open Go.RowKit Go.Proofs.YtfjkpdhldeopaaaDoorW.PrintWords Go.Proofs.YtfjkpdhldeopaaaDoorW.PrintLast Go.Proofs.YtfjkpdhldeopaaaDoorW.PrintMore
set_option linter.unusedVariables false
set_option linter.unusedSimpArgs false
set_option maxHeartbeats 4000000 in
set_option maxRecDepth 100000 in
theorem laws_toBatchS.callsB (k : Nat) (A : Option Addr) (c : Nat) (l : List S24) (r : List S28) (w : World) (hr : Kd.C k24 w A l.length l) (hc : l.length ≤ c) (h : laws_toBatchS.f k l = some r) :
    Calls Tryd.prog 18 #[.slice A l.length c] w fun e w' => ∃ v : Value, e = .returned v ∧ Kd.S kB 28 w' w.heap.size (fun _ => True) v r ∧ Below w.heap.size w w' := by
  have HR := Aside0.mk hr
  have HC := Aside0.mk hc
  have HS := Aside0.mk (St.nil w)
  clear hr hc
  unfold laws_toBatchS.f at h
  rw [if_pos (by omega)] at h
  by_cases hl : (l.length : Int).toNat ≤ 5026338869833
  case neg => rw [if_neg hl] at h; cases h
  rw [if_pos hl] at h
  have HH := Aside0.mk h
  have HL := Aside0.mk hl
  clear h hl
  go_enter Tryd.func18, Tryd.ntmps18
  go_wp2_with (first
    | ((with_reducible refine gate_dst (N := 7) rfl ?_); refine Kd.S_make kB (w0 := w) w.heap.size 28 rfl (N := 7) rfl 40 _ _ rfl (l.length : Int) rfl rfl Tryd.underlying40 (.agg #[.bool false, .bool false, .int .i64 0, .int .i64 0, .int .i64 0, .slice none 0 0]) 56 (by kernel_rfl) rfl (by decide) (by omega) z28 (ok := fun _ => True) (okp := fun _ => True) (kB_mkM _ _ _ z28 (Kd.S_nil _ _ _ _ _)) (fun _ _ => trivial) trivial (by omega) (by have := HL.out; omega) (Below.refl _ _) (Nat.le_refl _) ?_; intro v W hs hb hg hat; clear hg hat; obtain ⟨V, q, hv⟩ := Kd.S_slice hs; rw [show (List.replicate (l.length : Int).toNat z28).length = l.length by simp] at hv; subst hv; replace HS := Aside0.mk (HS.out.pushS hs hb); clear hs hb))
  go_loopg [4] k (fun kq v4 wr => ∃ (x : Int) (ys : List S28) (P : Nat → Prop), v4 = .int .i64 x ∧ ys.length = l.length ∧ Aside0 (laws_toBatchS.l0 kq l ys x = some r) ∧ Aside0 (kq ≤ k) ∧ Aside0 (St w wr [rowS kB 28 w.heap.size (.slice V l.length q) ys P]))
  case atStart => exact ⟨0, _, _, rfl, by simp, HH, ⟨Nat.le_refl _⟩, HS⟩
  case round =>
    clear HH HS
    obtain ⟨x, ys, P, rfl, hyl, HA, HK, HS⟩ := hrel
    cases gk with
    | zero => exact absurd HA.out (by simp [laws_toBatchS.l0])
    | succ k2 =>
      have H := HA.out
      clear HA
      simp only [laws_toBatchS.l0] at H
      by_cases c1 : x < (l.length : Int)
      · rw [if_pos c1] at H
        by_cases c2 : 0 ≤ x
        case neg => rw [if_neg c2] at H; cases H
        rw [if_pos c2] at H
        obtain ⟨⟨t0, t1, t2, t3, t4, t5⟩, hcp, H⟩ := Option.bind_eq_some_iff.mp H
        rw [if_pos (by omega)] at H
        obtain ⟨ad, A5, c5, e_, x0, x1, x2, x3, x4, x5, hl5, hi5⟩ := at_T24 HR.out x c2 c1
        cases e_
        replace x0 := (HS.out.below.cell (World.block_lt_of_cell? w _ x0)).trans x0
        replace x1 := (HS.out.below.cell (World.block_lt_of_cell? w _ x1)).trans x1
        replace x2 := (HS.out.below.cell (World.block_lt_of_cell? w _ x2)).trans x2
        replace x3 := (HS.out.below.cell (World.block_lt_of_cell? w _ x3)).trans x3
        replace x4 := (HS.out.below.cell (World.block_lt_of_cell? w _ x4)).trans x4
        replace x5 := (HS.out.below.cell (World.block_lt_of_cell? w _ x5)).trans x5
        obtain ⟨g, cap', e0, hgb, hgl, cells, hgc⟩ := Kd.S_form (HS.out.getS 0 rfl) (by omega)
        injection e0 with e1 e2 e3
        subst e1
        subst e3
        have HE := Aside0.mk (And.intro hyl (And.intro c2 c1))
        have HI := Aside0.mk (And.intro hl5 hi5)
        have HP := Aside0.mk hcp
        have HA := Aside0.mk H
        clear hl5 hi5 hcp H e2 hgb hgl hgc hyl
        replace c1 := eq_true c1
        replace c2 := eq_true c2
        go_wp2_with (first
          | (go_at_call 9; with_reducible refine (laws_toBatch.calls k2 (rd_T24 l x).f0 (rd_T24 l x).f1 (rd_T24 l x).f2 (rd_T24 l x).f3 (rd_T24 l x).f4 _ _ (rd_T24 l x).f5 t0 t1 t2 t3 t4 t5 _ (Kd.C_below HI.out.2 HS.out.below) HI.out.1 HP.out).mono ?_; rintro e W ⟨v, rfl, hs, hb⟩; obtain ⟨Y, y, rfl⟩ := Kd.S_slice hs; replace HS := Aside0.mk (HS.out.pushM (kB_mkM W _ (fun _ => True) (⟨t0, t1, t2, t3, t4, t5⟩ : S28) hs) hb); clear hs hb)
          | ((with_reducible refine gate_store (t := 28) (p := 21) rfl ?_); refine St_store (d := kB) z28 HS.out rfl rfl 28 (.tmp 21) (.tmp 20) rfl rfl rfl rfl (by kernel_rfl) HE.out.2.1 HE.out.2.2 ?_; intro W P1 h_; clear HS; have HS := Aside0.mk h_; clear h_))
        go_roundg k2
        case measure => omega
        case rel => exact ⟨_, ys.set x.toNat ⟨t0, t1, t2, t3, t4, t5⟩, P1, rfl, by rw [List.length_set]; exact HE.out.1, HA, ⟨by have := HK.out; omega⟩, HS⟩
      · rw [if_neg c1] at H
        cases H
        go_wp2
        go_ret
        exact ⟨_, rfl, Kd.S_mono (HS.out.getS 0 rfl) (fun _ _ => trivial), HS.out.below⟩
end Go.Proofs.YtfjkpdhldeopaaaDoor.G

namespace Go.Proofs.YtfjkpdhldeopaaaDoor.G
open Go.RowKit Go.Proofs.YtfjkpdhldeopaaaDoorW.PrintWords Go.Proofs.YtfjkpdhldeopaaaDoorW.PrintLast Go.Proofs.YtfjkpdhldeopaaaDoorW.PrintMore
set_option linter.unusedVariables false
set_option linter.unusedSimpArgs false
abbrev BatV (p m : Bool) (i j s : Int) (v : Value) : Value := .agg #[.bool p, .bool m, .int .i64 i, .int .i64 j, .int .i64 s, v]
abbrev batE (g : Nat) (p m : Bool) (i j s : Int) (v : Value) : En := boxE g #[.bool p, .bool m, .int .i64 i, .int .i64 j, .int .i64 s, v] 28
theorem join_split {k : Nat} {a0 a1 : Bool} {a2 a3 a4 : Int} {l : List S62} {b0 b1 : Bool} {b2 b3 b4 : Int} {m : List S62} {r : Bool × Bool × Int × Int × Int × List S62 × Option Int} (h : impl_Batch_join.f k a0 a1 a2 a3 a4 l b0 b1 b2 b3 b4 m = some r) :
    impl_BatchValid.f k a0 a1 a2 a3 a4 l = some false ∧ impl_Batch_join.j0 k true a0 a1 a2 a3 a4 l b0 b1 b2 b3 b4 m = some r ∨
    impl_BatchValid.f k a0 a1 a2 a3 a4 l = some true ∧ (impl_BatchValid.f k b0 b1 b2 b3 b4 m = some false ∧ impl_Batch_join.j0 k true a0 a1 a2 a3 a4 l b0 b1 b2 b3 b4 m = some r ∨
      impl_BatchValid.f k b0 b1 b2 b3 b4 m = some true ∧ ((a2 != 255) = true ∧ impl_Batch_join.j0 k true a0 a1 a2 a3 a4 l b0 b1 b2 b3 b4 m = some r ∨
        (a2 != 255) = false ∧ ((b2 != 255) = true ∧ impl_Batch_join.j0 k true a0 a1 a2 a3 a4 l b0 b1 b2 b3 b4 m = some r ∨
          (b2 != 255) = false ∧ impl_Batch_join.j0 k (a0 != b0) a0 a1 a2 a3 a4 l b0 b1 b2 b3 b4 m = some r))) := by
  unfold impl_Batch_join.f at h
  obtain ⟨u, hu, h⟩ := Option.bind_eq_some_iff.mp h
  cases u
  · exact .inl ⟨hu, by simpa using h⟩
  simp only [if_true] at h
  obtain ⟨v, hv, h⟩ := Option.bind_eq_some_iff.mp h
  refine .inr ⟨hu, ?_⟩
  cases v
  · exact .inl ⟨hv, by simpa using h⟩
  simp only [if_true] at h
  refine .inr ⟨hv, ?_⟩
  by_cases h2 : a2 = 255
  · rw [if_pos h2] at h
    refine .inr ⟨bne_eq_false_iff_eq.2 h2, ?_⟩
    by_cases h3 : b2 = 255
    · rw [if_pos h3] at h
      exact .inr ⟨bne_eq_false_iff_eq.2 h3, h⟩
    · rw [if_neg h3] at h
      exact .inl ⟨bne_iff_ne.2 h3, h⟩
  · rw [if_neg h2] at h
    exact .inl ⟨bne_iff_ne.2 h2, h⟩
set_option maxHeartbeats 4000000 in
set_option maxRecDepth 100000 in
theorem impl_Batch_join.callsS [ErrA] (k : Nat) (a0 a1 : Bool) (a2 a3 a4 : Int) (A : Option Addr) (c : Nat) (l : List S62) (b0 b1 : Bool) (b2 b3 b4 : Int) (B : Option Addr) (d : Nat) (m : List S62) (r1 r2 : Bool) (r3 r4 r5 : Int) (r6 : List S62) (r7 : Option Int) (w : World)
    (hE : ErrOk [0] w) (hr0 : Kd.C k62 w A l.length l) (hc0 : l.length ≤ c) (hr1 : Kd.C k62 w B m.length m) (hc1 : m.length ≤ d) (h : impl_Batch_join.f k a0 a1 a2 a3 a4 l b0 b1 b2 b3 b4 m = some (r1, r2, r3, r4, r5, r6, r7)) :
    Calls Tryd.prog 29 #[BatV a0 a1 a2 a3 a4 (.slice A l.length c), BatV b0 b1 b2 b3 b4 (.slice B m.length d)] w fun e w' => ∃ v : Value, e = .returned (.tuple #[BatV r1 r2 r3 r4 r5 v, errW r7]) ∧ Kd.S k62 62 w' w.heap.size (fun _ => True) v r6 ∧ Below w.heap.size w w' := by
  have HE := Aside0.mk hE
  have HR0 := Aside0.mk hr0
  have HR1 := Aside0.mk hr1
  have HC := Aside0.mk (And.intro hc0 hc1)
  have HS := Aside0.mk (St.nil w)
  have hu := Tryd.underlying28
  clear hE hr0 hr1 hc0 hc1
  have HH := Aside0.mk h
  clear h
  go_enter Tryd.func29, Tryd.ntmps29
  go_upto_region 1 with (first
    | ((with_reducible refine gate_dst (N := 2) rfl ?_); refine w_box HS rfl rfl (by go_simp; try rfl) ?_; intro g2 W h_; clear HS; have HS := h_; clear h_)
    | ((with_reducible refine gate_dst (N := 3) rfl ?_); refine w_box HS rfl rfl (by go_simp; try rfl) ?_; intro g3 W h_; clear HS; have HS := h_; clear h_)
    | ((with_reducible refine gate_dst (N := 4) rfl ?_); refine w_box HS rfl rfl (by go_simp; try rfl) ?_; intro g4 W h_; clear HS; have HS := h_; clear h_))
  go_cut [31] (fun v31 wc => ∃ x : Bool, v31 = .bool x ∧ Aside0 (impl_Batch_join.j0 k x a0 a1 a2 a3 a4 l b0 b1 b2 b3 b4 m = some (r1, r2, r3, r4, r5, r6, r7)) ∧ Aside0 (St w wc [batE g4 false false 0 0 0 (.slice none 0 0), batE g3 b0 b1 b2 b3 b4 (.slice B m.length d), batE g2 a0 a1 a2 a3 a4 (.slice A l.length c)]))
  case first =>
    rcases join_split HH.out with ⟨hu0, hj⟩ | ⟨hu0, ⟨hv0, hj⟩ | ⟨hv0, ⟨h2, hj⟩ | ⟨h2, ⟨h3, hj⟩ | ⟨h3, hj⟩⟩⟩⟩
    all_goals
      obtain ⟨f0, f1⟩ := HS.out.cells 2 rfl
      clear HH
      have HJ := Aside0.mk hj
      have HU := Aside0.mk hu0
      try have HV := Aside0.mk hv0
      try clear hv0
      clear hj hu0
      go_wp2_with (first
        | (go_at_call 47; with_reducible refine (impl_BatchValid.calls k a0 a1 a2 a3 a4 _ _ l _ _ (Kd.C_below HR0.out HS.out.below) HC.out.1 HU.out).mono ?_; rintro e W ⟨rfl, hb⟩; replace HS := Aside0.mk (HS.out.call hb); clear hb f0 f1; obtain ⟨f0, f1⟩ := HS.out.cells 2 rfl; obtain ⟨p0, p1⟩ := HS.out.cells 1 rfl)
        | (go_at_call 47; with_reducible refine (impl_BatchValid.calls k b0 b1 b2 b3 b4 _ _ m _ _ (Kd.C_below HR1.out HS.out.below) HC.out.2 HV.out).mono ?_; rintro e W ⟨rfl, hb⟩; replace HS := Aside0.mk (HS.out.call hb); clear hb f0 f1 p0 p1; obtain ⟨f0, f1⟩ := HS.out.cells 2 rfl; obtain ⟨p0, p1⟩ := HS.out.cells 1 rfl))
      go_meet
      case rel => exact ⟨_, rfl, HJ, HS⟩
  case rest =>
    clear HH
    obtain ⟨x, rfl, HJ, HS⟩ := hcut
    obtain ⟨n, rfl⟩ : ∃ n, k = n + 1 := by
      cases k with
      | zero => exact absurd HJ.out (by simp [impl_Batch_join.j0])
      | succ n => exact ⟨n, rfl⟩
    cases x
    · have hj := HJ.out
      simp only [impl_Batch_join.j0, Bool.false_eq_true, if_false] at hj
      obtain ⟨⟨t0, t1, t2, t3, t4, ys⟩, hcp, hj⟩ := Option.bind_eq_some_iff.mp hj
      obtain ⟨zs, hcr, hj⟩ := Option.bind_eq_some_iff.mp hj
      by_cases hlen : ys.length + zs.length < 1759218604441
      case neg => rw [if_neg hlen] at hj; cases hj
      rw [if_pos hlen] at hj
      have hj := (Option.bind_some _ _).symm.trans hj
      obtain ⟨ls, hls⟩ : ∃ ls, ls = ys ++ zs := ⟨_, rfl⟩
      rw [← hls] at hj
      obtain ⟨vb, hvb, hj⟩ := Option.bind_eq_some_iff.mp hj
      have HLS := Aside0.mk hls
      clear hls
      have HA := Aside0.mk (And.intro hcp (And.intro hcr hvb))
      have HL := Aside0.mk hlen
      have HK := Aside0.mk hj
      clear HJ hcp hcr hvb hlen hj
      obtain ⟨f0, f1⟩ := HS.out.cells 2 rfl
      go_upto_region 4 with (first
        | (go_at_call 40; with_reducible refine (impl_Batch_copyOf.calls n a0 a1 a2 a3 a4 _ _ l t0 t1 t2 t3 t4 ys _ (Kd.C_below HR0.out HS.out.below) HC.out.1 HA.out.1).mono ?_; rintro e W ⟨v, rfl, hs, hb⟩; obtain ⟨Y, y, rfl⟩ := Kd.S_slice hs; replace HS := Aside0.mk (HS.out.pushS hs hb); clear hs hb f0 f1)
        | ((with_reducible refine gate_dst (N := 6) rfl ?_); refine w_box HS rfl rfl (by go_simp; try rfl) ?_; intro g6 W h_; clear HS; have HS := h_; clear h_; obtain ⟨f0, f1⟩ := HS.out.cells 0 rfl)
        | ((with_reducible refine gate_store (t := 28) (p := 6) rfl ?_); refine w_put rfl rfl (by go_simp; try rfl) (HS.out.set6 0 rfl _ _ _ _ _ _) ?_; intro W h_; clear HS f0 f1; have HS := h_; clear h_))
      have HS2 := Aside0.mk HS.out.drew
      refine q_begin (fun W => St w W [batE g6 t0 t1 t2 t3 t4 (.slice Y ys.length y), batE g4 false false 0 0 0 (.slice none 0 0), batE g3 b0 b1 b2 b3 b4 (.slice B m.length d), batE g2 a0 a1 a2 a3 a4 (.slice A l.length c)]) [7] 8 (by kernel_rfl) rfl (HS2.out.front 1 rfl).drop1 (fun hS => ?_)
      generalize World.drew _ = W at hS HS2 ⊢
      repeat (first | (refine q_go (v := ?_) (by kernel_rfl) (by rfl) (fun _ _ _ h => h) hS ?_ ?_; rotate_left; (focus (intro w hS; obtain ⟨f0, f1⟩ := hS.cells 0 rfl; obtain ⟨p0, p1⟩ := hS.cells 2 rfl; go_simp; first | done | with_reducible rfl)); simp only [Act.put, List.setIfInBounds_toArray, List.set_cons_zero, List.set_cons_succ, Nat.reduceAdd]))
      refine q_call (by kernel_rfl) (by decide) (by rfl) Tryd.func48 (by kernel_rfl) rfl #[.slice B m.length d] rfl tq ?_
      refine (impl_copyRecords.calls n B d m zs _ (Kd.C_below HR1.out hS.below) HC.out.2 HA.out.2.1).mono ?_
      rintro e W2 ⟨v, rfl, hs, hb⟩
      obtain ⟨Z, z, rfl⟩ := Kd.S_slice hs
      refine ⟨_, rfl, hS.call hb, fun hS => ?_⟩
      replace HS2 := Aside0.mk ((HS2.out.pushS hs hb).front 2 rfl)
      clear hs hb
      simp only [Act.put, List.setIfInBounds_toArray, List.set_cons_zero, List.set_cons_succ, Nat.reduceAdd]
      refine q_stp (by kernel_rfl) (by decide) (fun K hK => ?_)
      refine S_append_rows_step k62 (w0 := w) w.heap.size rfl (.tmp 37) (.tmp 40) 26 62 (.agg #[.int .i64 0, .int .i64 0, .bool false, .slice none 0 0, .bool false, .slice none 0 0]) 80 rfl Tryd.underlying26 (by kernel_rfl) rfl (by decide) (by omega) _ ys zs _ _ _ (fun k => (_ ∨ _) ∨ W2.heap.size ≤ k) _ _ rfl rfl (HS2.out.getS 0 rfl) (HS2.out.getS 1 rfl) (HS2.out.apart 0 1 rfl rfl (by omega)) (fun k hk => .inl (.inl hk)) (fun k hk => .inl (.inr hk)) (fun k hk => .inr hk) HS2.out.below HS2.out.below.size (by have := HL.out; omega) ?_
      intro v1 W3 hs hb hg hat
      rw [← HLS.out] at hs
      obtain ⟨V, q, rfl⟩ := Kd.S_slice hs
      have HS3 := Aside0.mk (HS2.out.app2 hs hg hb)
      clear hs hg hb hat HS2
      refine hK.out _ _ HS3.out.drop1 (fun hS => ?_)
      clear hK K
      simp only [Act.put, List.setIfInBounds_toArray, List.set_cons_zero, List.set_cons_succ, Nat.reduceAdd]
      refine q_go (v := ?_) (by kernel_rfl) (by rfl) (fun _ _ _ h => h) hS ?_ ?_
      rotate_left
      focus (intro w hS; go_simp; first | done | with_reducible rfl)
      simp only [Act.put, List.setIfInBounds_toArray, List.set_cons_zero, List.set_cons_succ, Nat.reduceAdd]
      obtain ⟨f0, f1⟩ := hS.cells 0 rfl
      refine q_store (by kernel_rfl) (by decide) (by rfl) rfl (by go_simp; try rfl) ?_
      have HS := Aside0.mk (show St w _ [_, batE g6 t0 t1 t2 t3 t4 (.slice V ls.length q), batE g4 false false 0 0 0 (.slice none 0 0), batE g3 b0 b1 b2 b3 b4 (.slice B m.length d), batE g2 a0 a1 a2 a3 a4 (.slice A l.length c)] from HS3.out.set1 1 rfl 5 (.slice V ls.length q))
      generalize World.setCell _ _ _ = W4 at HS ⊢
      clear HS3 hS f0 f1
      refine q_done (by kernel_rfl) ?_
      obtain ⟨f0, f1⟩ := HS.out.cells 1 rfl
      cases vb
      · go_wp2_with (first
          | (go_at_call 47; with_reducible refine (impl_BatchValid.calls n t0 t1 t2 t3 t4 _ _ ls false _ (HS.out.getC 0 rfl) (HS.out.getL 0 rfl) HA.out.2.2).mono ?_; rintro e W ⟨rfl, hb⟩; replace HS := Aside0.mk (HS.out.call hb); clear hb f0 f1))
        refine q_begin (fun W => St w W [batE g4 false false 0 0 0 (.slice none 0 0)]) [] 4 (by kernel_rfl) rfl (HS.out.drew.sub (by simp)) (fun hS => ?_)
        generalize World.drew _ = W at hS ⊢
        cases HK.out
        repeat (first | (refine q_go (v := ?_) (by kernel_rfl) (by rfl) (fun _ _ _ h => h) hS ?_ ?_; rotate_left; (focus (intro w hS; have hg := ErrOk.g0 (ErrOk.below HE.out hS.below) (by decide); go_simp; first | done | with_reducible rfl)); simp only [Act.put, List.setIfInBounds_toArray, List.set_cons_zero, List.set_cons_succ, Nat.reduceAdd]))
        obtain ⟨f0, f1⟩ := hS.cells 0 rfl
        refine q_put (by kernel_rfl) (by simp) (by rfl) rfl (by go_simp; try rfl) (hS.set6 0 rfl _ _ _ _ _ _) (fun hS => ?_)
        repeat (first | (refine q_go (v := ?_) (by kernel_rfl) (by rfl) (fun _ _ _ h => h) hS ?_ ?_; rotate_left; (focus (intro w hS; go_simp; first | done | with_reducible rfl)); simp only [Act.put, List.setIfInBounds_toArray, List.set_cons_zero, List.set_cons_succ, Nat.reduceAdd]))
        refine q_done (by kernel_rfl) ?_
        go_wp2
        refine bodyPost_ret (results_ct rfl _ _ g4 28 #[.bool false, .bool false, .int .i64 0, .int .i64 0, .int .i64 0, .slice none 0 0] (0, 0) _ rfl (hS.getB 0 rfl) Tryd.underlying28 rfl (by kernel_rfl)) rfl ?_
        exact ⟨_, by rfl, Kd.S_nil _ _ _ _ _, hS.below⟩
      · go_wp2_with (first
          | (go_at_call 47; with_reducible refine (impl_BatchValid.calls n t0 t1 t2 t3 t4 _ _ ls true _ (HS.out.getC 0 rfl) (HS.out.getL 0 rfl) HA.out.2.2).mono ?_; rintro e W ⟨rfl, hb⟩; replace HS := Aside0.mk (HS.out.call hb); clear hb f0 f1; obtain ⟨f0, f1⟩ := HS.out.cells 1 rfl; obtain ⟨p0, p1⟩ := HS.out.cells 2 rfl)
          | ((with_reducible refine gate_store (t := 28) (p := 4) rfl ?_); refine w_put rfl rfl (by go_simp; try rfl) (HS.out.set6 2 rfl _ _ _ _ _ _) ?_; intro W h_; clear HS f0 f1 p0 p1; have HS := h_; clear h_))
        cases HK.out
        refine bodyPost_ret (results_ct rfl _ _ g4 28 #[.bool r1, .bool r2, .int .i64 r3, .int .i64 r4, .int .i64 r5, .slice V r6.length q] (0, 0) _ rfl (HS.out.getB 2 rfl) Tryd.underlying28 rfl (by kernel_rfl)) rfl ?_
        exact ⟨_, by rfl, Kd.S_mono (HS.out.getS 0 rfl) (fun _ _ => trivial), HS.out.below⟩
    · go_wp2
      refine q_begin (fun W => St w W [batE g4 false false 0 0 0 (.slice none 0 0), batE g3 b0 b1 b2 b3 b4 (.slice B m.length d), batE g2 a0 a1 a2 a3 a4 (.slice A l.length c)]) [] 4 (by kernel_rfl) rfl HS.out.drew (fun hS => ?_)
      generalize wc.drew = W at hS ⊢
      have hj := HJ.out
      simp only [impl_Batch_join.j0, if_true] at hj
      cases hj
      repeat (first | (refine q_go (v := ?_) (by kernel_rfl) (by rfl) (fun _ _ _ h => h) hS ?_ ?_; rotate_left; (focus (intro w hS; have hg := ErrOk.g0 (ErrOk.below HE.out hS.below) (by decide); go_simp; first | done | with_reducible rfl)); simp only [Act.put, List.setIfInBounds_toArray, List.set_cons_zero, List.set_cons_succ, Nat.reduceAdd]))
      obtain ⟨f0, f1⟩ := hS.cells 0 rfl
      refine q_put (by kernel_rfl) (by simp) (by rfl) rfl (by go_simp; try rfl) (hS.set6 0 rfl _ _ _ _ _ _) (fun hS => ?_)
      repeat (first | (refine q_go (v := ?_) (by kernel_rfl) (by rfl) (fun _ _ _ h => h) hS ?_ ?_; rotate_left; (focus (intro w hS; go_simp; first | done | with_reducible rfl)); simp only [Act.put, List.setIfInBounds_toArray, List.set_cons_zero, List.set_cons_succ, Nat.reduceAdd]))
      refine q_done (by kernel_rfl) ?_
      go_wp2
      refine bodyPost_ret (results_ct rfl _ _ g4 28 #[.bool false, .bool false, .int .i64 0, .int .i64 0, .int .i64 0, .slice none 0 0] (0, 0) _ rfl (hS.getB 0 rfl) Tryd.underlying28 rfl (by kernel_rfl)) rfl ?_
      exact ⟨_, by rfl, Kd.S_nil _ _ _ _ _, hS.below⟩
set_option maxHeartbeats 4000000 in
set_option maxRecDepth 100000 in
theorem impl_BatchJoin.callsS [ErrA] (k : Nat) (a0 a1 : Bool) (a2 a3 a4 : Int) (A : Option Addr) (c : Nat) (l : List S62) (b0 b1 : Bool) (b2 b3 b4 : Int) (B : Option Addr) (d : Nat) (m : List S62) (r1 r2 : Bool) (r3 r4 r5 : Int) (r6 : List S62) (r7 : Bool) (w : World)
    (hE : ErrOk [0] w) (hr0 : Kd.C k62 w A l.length l) (hc0 : l.length ≤ c) (hr1 : Kd.C k62 w B m.length m) (hc1 : m.length ≤ d) (h : impl_BatchJoin.f k a0 a1 a2 a3 a4 l b0 b1 b2 b3 b4 m = some (r1, r2, r3, r4, r5, r6, r7)) :
    Calls Tryd.prog 10 #[BatV a0 a1 a2 a3 a4 (.slice A l.length c), BatV b0 b1 b2 b3 b4 (.slice B m.length d)] w fun e w' => ∃ v : Value, e = .returned (.tuple #[BatV r1 r2 r3 r4 r5 v, .bool r7]) ∧ Kd.S k62 62 w' w.heap.size (fun _ => True) v r6 ∧ Below w.heap.size w w' := by
  have HE := Aside0.mk hE
  have HR0 := Aside0.mk hr0
  have HR1 := Aside0.mk hr1
  have HC := Aside0.mk (And.intro hc0 hc1)
  have HS := Aside0.mk (St.nil w)
  have hu := Tryd.underlying28
  clear hE hr0 hr1 hc0 hc1
  unfold impl_BatchJoin.f at h
  obtain ⟨⟨t0, t1, t2, t3, t4, ys, er⟩, hj, h⟩ := Option.bind_eq_some_iff.mp h
  obtain ⟨x, hx, h⟩ := Option.bind_eq_some_iff.mp h
  have HJ := Aside0.mk (And.intro hj hx)
  have HK := Aside0.mk h
  clear hj hx h
  go_enter Tryd.func10, Tryd.ntmps10
  cases x
  all_goals
    go_wp2_with (first
      | ((with_reducible refine gate_dst (N := 2) rfl ?_); refine w_box HS rfl rfl (by go_simp; try rfl) ?_; intro g2 W h_; clear HS; have HS := h_; clear h_)
      | ((with_reducible refine gate_dst (N := 3) rfl ?_); refine w_box HS rfl rfl (by go_simp; try rfl) ?_; intro g3 W h_; clear HS; have HS := h_; clear h_)
      | ((with_reducible refine gate_dst (N := 4) rfl ?_); refine w_box HS rfl rfl (by go_simp; try rfl) ?_; intro g4 W h_; clear HS; have HS := h_; clear h_; obtain ⟨f0, f1⟩ := HS.out.cells 2 rfl; obtain ⟨p0, p1⟩ := HS.out.cells 1 rfl)
      | ((with_reducible refine gate_dst (N := 6) rfl ?_); refine w_box HS rfl rfl (by go_simp; try rfl) ?_; intro g6 W h_; clear HS; have HS := h_; clear h_; obtain ⟨f0, f1⟩ := HS.out.cells 0 rfl)
      | (go_at_call 29; with_reducible refine (impl_Batch_join.callsS k a0 a1 a2 a3 a4 _ _ l b0 b1 b2 b3 b4 _ _ m t0 t1 t2 t3 t4 ys er _ (ErrOk.below HE.out HS.out.below) (Kd.C_below HR0.out HS.out.below) HC.out.1 (Kd.C_below HR1.out HS.out.below) HC.out.2 HJ.out.1).mono ?_; rintro e W ⟨v, rfl, hs, hb⟩; obtain ⟨Y, y, rfl⟩ := Kd.S_slice hs; replace HS := Aside0.mk (HS.out.pushS hs hb); clear hs hb f0 f1 p0 p1)
      | ((with_reducible refine gate_store (t := 28) (p := 6) rfl ?_); refine w_put rfl rfl (by go_simp; try rfl) (HS.out.set6 0 rfl _ _ _ _ _ _) ?_; intro W h_; clear HS f0 f1; have HS := h_; clear h_; obtain ⟨f0, f1⟩ := HS.out.cells 0 rfl; obtain ⟨p0, p1⟩ := HS.out.cells 2 rfl)
      | ((with_reducible refine gate_dst (N := 15) rfl ?_); refine glob_ rfl (v := errW (some 1)) (g := 0) ?hr ?hc ?_; (case hc => exact ErrOk.g0 (ErrOk.below HE.out HS.out.below) (by decide)); (case hr => intro W_ hc_; go_simp))
      | (go_at_call 30; with_reducible refine (errors_Is.calls er (some 1) _ _ HJ.out.2).mono ?_; rintro e W ⟨rfl, hb⟩; replace HS := Aside0.mk (HS.out.call hb); clear hb f0 f1 p0 p1; obtain ⟨f0, f1⟩ := HS.out.cells 0 rfl; obtain ⟨p0, p1⟩ := HS.out.cells 2 rfl)
      | ((with_reducible refine gate_store (t := 28) (p := 4) rfl ?_); refine w_put rfl rfl (by go_simp; try rfl) (HS.out.set6 2 rfl _ _ _ _ _ _) ?_; intro W h_; clear HS f0 f1 p0 p1; have HS := h_; clear h_))
    cases HK.out
    refine bodyPost_ret (results_ct rfl _ _ g4 28 _ (0, 0) _ rfl (HS.out.getB 2 rfl) Tryd.underlying28 rfl (by kernel_rfl)) rfl ?_
    first | exact ⟨_, by rfl, Kd.S_nil _ _ _ _ _, HS.out.below⟩ | exact ⟨_, by rfl, Kd.S_mono (HS.out.getS 1 rfl) (fun _ _ => trivial), HS.out.below⟩
end Go.Proofs.YtfjkpdhldeopaaaDoor.G

namespace Go.Proofs.YtfjkpdhldeopaaaDoor.G
open Go.RowKit Go.Proofs.YtfjkpdhldeopaaaDoorW.PrintWords Go.Proofs.YtfjkpdhldeopaaaDoorW.PrintLast Go.Proofs.YtfjkpdhldeopaaaDoorW.PrintMore
set_option linter.unusedVariables false
section
variable {α : Type} {d : Kd α} {e b n c i t : Nat} {w W W' : World} {es : List En} {v v1 : Value} {A : Option Addr} {xs ys : List α} {P ok : Nat → Prop}
section
variable {P : Program} {Q : Exit → Act → World → Prop} {o : Oper} {a : Act} {K : Act → World → Prop} {p : Prop}
theorem calls_st {f : FuncId} {args : Array Value} {R : Ending → World → Prop} (h : St w W es) (k : Aside0 (St w W es) → Calls P f args W R) : Calls P f args W R := k ⟨h⟩
end
end
end Go.Proofs.YtfjkpdhldeopaaaDoor.G

namespace Go.Proofs.YtfjkpdhldeopaaaDoor.G
open Go.RowKit Go.Proofs.YtfjkpdhldeopaaaDoorW.PrintWords Go.Proofs.YtfjkpdhldeopaaaDoorW.PrintLast Go.Proofs.YtfjkpdhldeopaaaDoorW.PrintMore
attribute [local go_sem] max2_int min2_int max_two min_two max_three min_three max_four min_four   -- for this text's walks alone
set_option linter.unusedVariables false
set_option linter.unusedSimpArgs false

def impl_Batch_last.f (a0_0 : Bool) (a0_1 : Bool) (a0_2 : Int) (a0_3 : Int) (a0_4 : Int) (l0_5 : List (S62)) : Option (Int) := if 0 ≤ (wrap64 ((l0_5.length : Int) - 1)) then (if (wrap64 ((l0_5.length : Int) - 1)) < (l0_5.length : Int) then (some ((rd_T62 l0_5 (wrap64 ((l0_5.length : Int) - 1))).f0)) else (none)) else (none)
set_option maxHeartbeats 8000000 in
set_option maxRecDepth 100000 in
theorem impl_Batch_last.calls (a0_0 : Bool) (a0_1 : Bool) (a0_2 : Int) (a0_3 : Int) (a0_4 : Int) (A0_5 : Option Addr) (c0_5 : Nat) (l0_5 : List (S62)) (r : Int) (w : World) (hr0_5 : Kd.C k62 w A0_5 l0_5.length l0_5) (hc0_5 : l0_5.length ≤ c0_5) (h : impl_Batch_last.f a0_0 a0_1 a0_2 a0_3 a0_4 l0_5 = some r) :
  Calls Tryd.prog 39 #[.agg #[.bool a0_0, .bool a0_1, .int .i64 a0_2, .int .i64 a0_3, .int .i64 a0_4, .slice A0_5 l0_5.length c0_5]] w fun e w' => e = .returned (.int .i64 r) ∧ Below w.heap.size w w' := by
 have hu28 := Tryd.underlying28
 have HR0_5 := Aside0.mk hr0_5
 have HC0_5 := Aside0.mk hc0_5
 clear hr0_5 hc0_5
 have HB := Aside0.mk (Below.refl w.heap.size w)
 have H : (if 0 ≤ (wrap64 ((l0_5.length : Int) - 1)) then (if (wrap64 ((l0_5.length : Int) - 1)) < (l0_5.length : Int) then (some ((rd_T62 l0_5 (wrap64 ((l0_5.length : Int) - 1))).f0)) else (none)) else (none)) = some r := h
 clear h
 obtain ⟨ji2, hji2⟩ : ∃ j_ : Int, (wrap64 ((l0_5.length : Int) - 1)) = j_ := ⟨_, rfl⟩
 replace H : (if 0 ≤ (ji2) then (if (ji2) < (l0_5.length : Int) then (some ((rd_T62 l0_5 (ji2)).f0)) else (none)) else (none)) = some r := by first | (rw [hji2] at H; exact H) | (simp only [hji2] at H ⊢; exact H)
 have hji2w : (IntKind.i64.wrap ((l0_5.length : Int) - 1)) = ji2 := (i64_w _).trans hji2
 by_cases c3 : 0 ≤ (ji2)
 ·rw [if_pos c3] at H
  have c3b0 : decide (0 ≤ (ji2)) = true := decide_eq_true c3
  clear c3
  by_cases c4 : (ji2) < (l0_5.length : Int)
  ·rw [if_pos c4] at H
   have c4b0 : decide ((ji2) < (l0_5.length : Int)) = true := decide_eq_true c4
   clear c4
   obtain rfl := Option.some.inj H
   go_enter Tryd.func39, Tryd.ntmps39
   go_wp2_with (first | ((with_reducible refine gate_dst (N := 1) rfl ?_); refine box_event ?hg (N := 1) ?hd (cs := #[.bool a0_0, .bool a0_1, .int .i64 a0_2, .int .i64 a0_3, .int .i64 a0_4, .slice A0_5 l0_5.length c0_5]) (t := 28) ?hr ?_; (case hd => rfl); (case hg => rfl); (case hr => first | (go_simp; done) | (go_simp; rfl)); intro gb478 hg w5 hbox hb; have BK478 := Aside0.mk (hbox); have GW478 := tge HB hg; have GE478 := tge HB hg; replace HB := tBs HB hb; clear hb hbox hg; obtain ⟨hcz6_0, hcz6_1, hcz6_2, hcz6_3, hcz6_4, hcz6_5, hfz6_0, hfz6_1, hfz6_2, hfz6_3, hfz6_4, hfz6_5⟩ := cells6 BK478.out; have p479 : 0 ≤ ((ji2) : Int) := td; have q479 : (ji2) < (l0_5.length : Int) := td; obtain ⟨ad479, A479_3, c479_3, A479_5, c479_5, e479, hx479_0, hx479_1, hx479_2, hx479_3, hx479_4, hx479_5, hl479_3, hi479_3, hl479_5, hi479_5⟩ := at_T62 HR0_5.out (ji2) p479 q479; cases e479; replace hx479_0 := tcl HB hx479_0; replace hx479_1 := tcl HB hx479_1; replace hx479_2 := tcl HB hx479_2; replace hx479_3 := tcl HB hx479_3; replace hx479_4 := tcl HB hx479_4; replace hx479_5 := tcl HB hx479_5; have HR479_3 := Aside0.mk hi479_3; have HC479_3 := Aside0.mk hl479_3; clear hi479_3 hl479_3; have HR479_5 := Aside0.mk hi479_5; have HC479_5 := Aside0.mk hl479_5; clear hi479_5 hl479_5; replace p479 := eq_true p479; replace q479 := eq_true q479))
   go_ret
   exact ⟨by first | rfl | (simp [errW_none, errW_some] <;> rfl) | (simp only [← hji2]; first | rfl | (simp [errW_none, errW_some] <;> rfl)) | (simp [*, errW_none, errW_some] <;> rfl), zb⟩
  ·rw [if_neg c4] at H
   exact absurd H (by simp)
 ·rw [if_neg c3] at H
  exact absurd H (by simp)

def impl_Batch_first.f (a0_0 : Bool) (a0_1 : Bool) (a0_2 : Int) (a0_3 : Int) (a0_4 : Int) (l0_5 : List (S62)) : Option (Int) := if 0 < (l0_5.length : Int) then (some ((rd_T62 l0_5 0).f0)) else (none)
set_option maxHeartbeats 8000000 in
set_option maxRecDepth 100000 in
theorem impl_Batch_first.calls (a0_0 : Bool) (a0_1 : Bool) (a0_2 : Int) (a0_3 : Int) (a0_4 : Int) (A0_5 : Option Addr) (c0_5 : Nat) (l0_5 : List (S62)) (r : Int) (w : World) (hr0_5 : Kd.C k62 w A0_5 l0_5.length l0_5) (hc0_5 : l0_5.length ≤ c0_5) (h : impl_Batch_first.f a0_0 a0_1 a0_2 a0_3 a0_4 l0_5 = some r) :
  Calls Tryd.prog 41 #[.agg #[.bool a0_0, .bool a0_1, .int .i64 a0_2, .int .i64 a0_3, .int .i64 a0_4, .slice A0_5 l0_5.length c0_5]] w fun e w' => e = .returned (.int .i64 r) ∧ Below w.heap.size w w' := by
 have hu28 := Tryd.underlying28
 have HR0_5 := Aside0.mk hr0_5
 have HC0_5 := Aside0.mk hc0_5
 clear hr0_5 hc0_5
 have HB := Aside0.mk (Below.refl w.heap.size w)
 have H : (if 0 < (l0_5.length : Int) then (some ((rd_T62 l0_5 0).f0)) else (none)) = some r := h
 clear h
 by_cases c2 : 0 < (l0_5.length : Int)
 ·rw [if_pos c2] at H
  have c2b0 : decide (0 < (l0_5.length : Int)) = true := decide_eq_true c2
  have c2b1 : decide (0 < l0_5.length) = true := decide_eq_true (by omega)
  clear c2
  obtain rfl := Option.some.inj H
  go_enter Tryd.func41, Tryd.ntmps41
  go_wp2_with (first | ((with_reducible refine gate_dst (N := 1) rfl ?_); refine box_event ?hg (N := 1) ?hd (cs := #[.bool a0_0, .bool a0_1, .int .i64 a0_2, .int .i64 a0_3, .int .i64 a0_4, .slice A0_5 l0_5.length c0_5]) (t := 28) ?hr ?_; (case hd => rfl); (case hg => rfl); (case hr => first | (go_simp; done) | (go_simp; rfl)); intro gb480 hg w3 hbox hb; have BK480 := Aside0.mk (hbox); have GW480 := tge HB hg; have GE480 := tge HB hg; replace HB := tBs HB hb; clear hb hbox hg; obtain ⟨hcz4_0, hcz4_1, hcz4_2, hcz4_3, hcz4_4, hcz4_5, hfz4_0, hfz4_1, hfz4_2, hfz4_3, hfz4_4, hfz4_5⟩ := cells6 BK480.out; have p481 : 0 ≤ (0 : Int) := (by omega); have q481 : 0 < (l0_5.length : Int) := td; obtain ⟨ad481, A481_3, c481_3, A481_5, c481_5, e481, hx481_0, hx481_1, hx481_2, hx481_3, hx481_4, hx481_5, hl481_3, hi481_3, hl481_5, hi481_5⟩ := at_T62 HR0_5.out 0 p481 q481; cases e481; have qi481 : (0 < l0_5.length) = True := eq_true (by omega); (try rw [show ((0 : Int)).toNat = 0 from rfl] at hx481_0); (try rw [show 0 * 6 = 0 from rfl] at hx481_0); (try rw [Addr.add_zero'] at hx481_0); (try rw [show ((0 : Int)).toNat = 0 from rfl] at hx481_1); (try rw [show 0 * 6 = 0 from rfl] at hx481_1); (try rw [Addr.add_zero'] at hx481_1); (try rw [show ((0 : Int)).toNat = 0 from rfl] at hx481_2); (try rw [show 0 * 6 = 0 from rfl] at hx481_2); (try rw [Addr.add_zero'] at hx481_2); (try rw [show ((0 : Int)).toNat = 0 from rfl] at hx481_3); (try rw [show 0 * 6 = 0 from rfl] at hx481_3); (try rw [Addr.add_zero'] at hx481_3); (try rw [show ((0 : Int)).toNat = 0 from rfl] at hx481_4); (try rw [show 0 * 6 = 0 from rfl] at hx481_4); (try rw [Addr.add_zero'] at hx481_4); (try rw [show ((0 : Int)).toNat = 0 from rfl] at hx481_5); (try rw [show 0 * 6 = 0 from rfl] at hx481_5); (try rw [Addr.add_zero'] at hx481_5); replace hx481_0 := tcl HB hx481_0; replace hx481_1 := tcl HB hx481_1; replace hx481_2 := tcl HB hx481_2; replace hx481_3 := tcl HB hx481_3; replace hx481_4 := tcl HB hx481_4; replace hx481_5 := tcl HB hx481_5; have HR481_3 := Aside0.mk hi481_3; have HC481_3 := Aside0.mk hl481_3; clear hi481_3 hl481_3; have HR481_5 := Aside0.mk hi481_5; have HC481_5 := Aside0.mk hl481_5; clear hi481_5 hl481_5; replace p481 := eq_true p481; replace q481 := eq_true q481))
  go_ret
  exact ⟨by first | rfl | (simp [errW_none, errW_some] <;> rfl) | (simp [*, errW_none, errW_some] <;> rfl), zb⟩
 ·rw [if_neg c2] at H
  exact absurd H (by simp)

end Go.Proofs.YtfjkpdhldeopaaaDoor.G

namespace Go.Proofs.YtfjkpdhldeopaaaDoor.G
open Go.RowKit Go.Proofs.YtfjkpdhldeopaaaDoorW.PrintWords Go.Proofs.YtfjkpdhldeopaaaDoorW.PrintLast Go.Proofs.YtfjkpdhldeopaaaDoorW.PrintMore Go.Proofs.YtfjkpdhldeopaaaDoor.Pu
set_option linter.unusedVariables false
set_option linter.unusedSimpArgs false
theorem last_q (b : S28) (A : Option Addr) (c : Nat) (w : World) (hr : Kd.C k62 w A b.f5.length b.f5) (hc : b.f5.length ≤ c) (hn : 1 ≤ b.f5.length ∧ b.f5.length ≤ 6) : Calls Tryd.prog 39 #[.agg #[.bool b.f0, .bool b.f1, .int .i64 b.f2, .int .i64 b.f3, .int .i64 b.f4, .slice A b.f5.length c]] w fun e w' => e = .returned (.int .i64 (lastOf b)) ∧ Below w.heap.size w w' :=
  impl_Batch_last.calls _ _ _ _ _ A c b.f5 _ w hr hc (by
    unfold impl_Batch_last.f lastOf
    simp only [w64 (a := (b.f5.length : Int) - 1) (by omega) (by omega), if_pos (show (0 : Int) ≤ (b.f5.length : Int) - 1 by omega), if_pos (show (b.f5.length : Int) - 1 < (b.f5.length : Int) by omega), if_pos (show (0 : Int) < (b.f5.length : Int) by omega)])
theorem first_q (b : S28) (A : Option Addr) (c : Nat) (w : World) (hr : Kd.C k62 w A b.f5.length b.f5) (hc : b.f5.length ≤ c) (hn : 1 ≤ b.f5.length ∧ b.f5.length ≤ 6) : Calls Tryd.prog 41 #[.agg #[.bool b.f0, .bool b.f1, .int .i64 b.f2, .int .i64 b.f3, .int .i64 b.f4, .slice A b.f5.length c]] w fun e w' => e = .returned (.int .i64 (firstOf b)) ∧ Below w.heap.size w w' :=
  impl_Batch_first.calls _ _ _ _ _ A c b.f5 _ w hr hc (by
    unfold impl_Batch_first.f firstOf
    simp only [w64 (a := (b.f5.length : Int) - 1) (by omega) (by omega), if_pos (show (0 : Int) ≤ (b.f5.length : Int) - 1 by omega), if_pos (show (b.f5.length : Int) - 1 < (b.f5.length : Int) by omega), if_pos (show (0 : Int) < (b.f5.length : Int) by omega)])
set_option maxRecDepth 100000 in
set_option maxHeartbeats 4000000 in
theorem impllog_q (l : List S28) (A : Option Addr) (c : Nat) (w : World) (hr : Kd.C k28 w A l.length l) (hc : l.length ≤ c) :
    Calls Tryd.prog 38 #[.slice A l.length c] w fun e w' => e = .returned (.bool (logOk l)) ∧ Below w.heap.size w w' := by
  have hl := hr.2.1
  unfold logOk
  have HR := Aside0.mk hr
  clear hr
  by_cases h8 : (l.length : Int) ≤ 8
  · rw [decide_eq_true h8, Bool.and_true]
    go_enter Tryd.func38, Tryd.ntmps38
    go_wp2
    go_loopw [10] (fun v10 wr => ∃ i : Nat, v10 = .int .i64 i ∧ i ≤ l.length ∧ (∀ j, j < i → batStep l j = true) ∧ Below w.heap.size w wr) (fun v10 _ => l.length - (intOf v10).toNat)
    case atStart => exact ⟨0, rfl, Nat.zero_le _, fun j hj => absurd hj (Nat.not_lt_zero j), Below.refl _ _⟩
    case round =>
      obtain ⟨i, rfl, hi, hall, hB1⟩ := hrel
      by_cases hlt : i < l.length
      · obtain ⟨ad, A5, c5, rfl, e0, e1, e2, e3, e4, e5, l5, g5⟩ := at_T28 (Kd.C_below HR.out hB1) (i : Int) (by omega) (by omega)
        rw [show ((i : Int)).toNat = i from rfl] at e0 e1 e2 e3 e4 e5
        have hrec : batStep l i = (batOk (rd_T28 l (i : Int)) && (decide (i = 0) || decide (lastOf (rd_T28 l ((i : Int) - 1)) < firstOf (rd_T28 l (i : Int))))) := rfl
        generalize rd_T28 l (i : Int) = bi at *
        go_wp2
        have bR := heap_alloc_new wr (.cells #[.bool bi.f0, .bool bi.f1, .int .i64 bi.f2, .int .i64 bi.f3, .int .i64 bi.f4, .slice A5 bi.f5.length c5] 28)
        have hB2 := below_alloc hB1 (.cells #[.bool bi.f0, .bool bi.f1, .int .i64 bi.f2, .int .i64 bi.f3, .int .i64 bi.f4, .slice A5 bi.f5.length c5] 28)
        have hBr := below_alloc (Below.refl wr.heap.size wr) (.cells #[.bool bi.f0, .bool bi.f1, .int .i64 bi.f2, .int .i64 bi.f3, .int .i64 bi.f4, .slice A5 bi.f5.length c5] 28)
        generalize wr.alloc _ = W1 at bR hB2 hBr ⊢
        have HRC := Aside0.mk (fun (W2 : World) (hb : Below wr.heap.size wr W2) => implbat_q bi A5 c5 W2 (Kd.C_below g5 hb) l5)
        have HF := Aside0.mk (fun (W2 : World) (hb : Below wr.heap.size wr W2) (hn : 1 ≤ bi.f5.length ∧ bi.f5.length ≤ 6) => first_q bi A5 c5 W2 (Kd.C_below g5 hb) l5 hn)
        have kS : ∀ w' : World, Below W1.drew.heap.size W1.drew w' → CellsB w' ⟨wr.heap.size, 0, none⟩ bi A5 c5 ∧ Below W1.heap.size W1 w' := fun w' h => ⟨⟨pw_cell_below h (blk_cell bR 0), pw_cell_below h (blk_cell bR 1), pw_cell_below h (blk_cell bR 2), pw_cell_below h (blk_cell bR 3), pw_cell_below h (blk_cell bR 4), pw_cell_below h (blk_cell bR 5)⟩, below_step (below_drew (Below.refl _ W1)) h⟩
        rcases hok : batOk bi with _ | _ <;> rw [hok] at HRC
        · have hno := Aside0.mk (logs_no hlt (hrec.trans (by rw [hok]; rfl)))
          refine r_begin (fun w' => CellsB w' ⟨wr.heap.size, 0, none⟩ bi A5 c5 ∧ Below W1.heap.size W1 w') 18 (by kernel_rfl) rfl (kS _ (Below.refl _ _)) (fun hH => ?_)
          repeat (first | (refine r_skip (by kernel_rfl) (by rfl) (fun _ _ _ h => h) hH ?_; simp only [Act.put, List.setIfInBounds_toArray, List.set_cons_zero, List.set_cons_succ, Nat.reduceAdd]) | (refine r_go (v := ?_) (by kernel_rfl) (by rfl) (fun _ _ _ h => h) hH ?_ ?_; rotate_left; (focus (intro w hS; obtain ⟨⟨e0, e1, e2, e3, e4, e5⟩, e6⟩ := hS; go_simp; first | done | with_reducible rfl)); simp only [Act.put, List.setIfInBounds_toArray, List.set_cons_zero, List.set_cons_succ, Nat.reduceAdd]) | (fail "x"))
          refine r_one (by kernel_rfl) (by rfl) (fun K hK => ?_)
          go_simp
          go_at_call 47
          refine (HRC.out _ (below_step hBr hH.2)).mono ?_
          rintro e w2 ⟨rfl, hb⟩
          go_wp2_with fail
          refine hK.out _ _ (kS _ hb) (fun hH => ?_)
          clear hK K
          simp only [Act.put, List.setIfInBounds_toArray, List.set_cons_zero, List.set_cons_succ, Nat.reduceAdd]
          repeat (first | (refine r_skip (by kernel_rfl) (by rfl) (fun _ _ _ h => h) hH ?_; simp only [Act.put, List.setIfInBounds_toArray, List.set_cons_zero, List.set_cons_succ, Nat.reduceAdd]) | (refine r_go (v := ?_) (by kernel_rfl) (by rfl) (fun _ _ _ h => h) hH ?_ ?_; rotate_left; (focus (intro w hS; obtain ⟨⟨e0, e1, e2, e3, e4, e5⟩, e6⟩ := hS; go_simp; first | done | with_reducible rfl)); simp only [Act.put, List.setIfInBounds_toArray, List.set_cons_zero, List.set_cons_succ, Nat.reduceAdd]) | (fail "x"))
          refine r_done (by kernel_rfl) ?_
          go_wp2
          go_ret
          exact ⟨by rw [hno.out]; rfl, below_step hB2 hH.2⟩
        · rcases i with _ | j
          · refine r_begin (fun w' => CellsB w' ⟨wr.heap.size, 0, none⟩ bi A5 c5 ∧ Below W1.heap.size W1 w') 18 (by kernel_rfl) rfl (kS _ (Below.refl _ _)) (fun hH => ?_)
            repeat (first | (refine r_skip (by kernel_rfl) (by rfl) (fun _ _ _ h => h) hH ?_; simp only [Act.put, List.setIfInBounds_toArray, List.set_cons_zero, List.set_cons_succ, Nat.reduceAdd]) | (refine r_go (v := ?_) (by kernel_rfl) (by rfl) (fun _ _ _ h => h) hH ?_ ?_; rotate_left; (focus (intro w hS; obtain ⟨⟨e0, e1, e2, e3, e4, e5⟩, e6⟩ := hS; go_simp; first | done | with_reducible rfl)); simp only [Act.put, List.setIfInBounds_toArray, List.set_cons_zero, List.set_cons_succ, Nat.reduceAdd]) | (fail "x"))
            refine r_one (by kernel_rfl) (by rfl) (fun K hK => ?_)
            go_simp
            go_at_call 47
            refine (HRC.out _ (below_step hBr hH.2)).mono ?_
            rintro e w2 ⟨rfl, hb⟩
            go_wp2_with fail
            refine hK.out _ _ (kS _ hb) (fun hH => ?_)
            clear hK K
            simp only [Act.put, List.setIfInBounds_toArray, List.set_cons_zero, List.set_cons_succ, Nat.reduceAdd]
            repeat (first | (refine r_skip (by kernel_rfl) (by rfl) (fun _ _ _ h => h) hH ?_; simp only [Act.put, List.setIfInBounds_toArray, List.set_cons_zero, List.set_cons_succ, Nat.reduceAdd]) | (refine r_go (v := ?_) (by kernel_rfl) (by rfl) (fun _ _ _ h => h) hH ?_ ?_; rotate_left; (focus (intro w hS; obtain ⟨⟨e0, e1, e2, e3, e4, e5⟩, e6⟩ := hS; go_simp; first | done | with_reducible rfl)); simp only [Act.put, List.setIfInBounds_toArray, List.set_cons_zero, List.set_cons_succ, Nat.reduceAdd]) | (fail "x"))
            refine r_done (by kernel_rfl) ?_
            go_wp2
            go_roundw
            case rel =>
              have hst : ∀ j, j < 0 + 1 → batStep l j = true := by
                intro j hj
                obtain rfl : j = 0 := by omega
                exact hrec.trans (by rw [hok]; rfl)
              first | exact ⟨0 + 1, by simp, hlt, hst, below_step hB2 hH.2⟩ | ((repeat apply Exists.intro); refine ⟨⟨0 + 1, ?_, hlt, hst, below_step hB2 hH.2⟩, by first | rfl | (repeat' apply And.intro) <;> rfl⟩; simp)
            case measure => simp [intOf]; omega
          · obtain ⟨ad2, A4, c4, hq, f0, f1, f2, f3, f4, f5, l4, g4⟩ := at_T28 (Kd.C_below HR.out hB1) (j : Int) (by omega) (by omega)
            cases hq
            rw [show ((j : Int)).toNat = j from rfl] at f0 f1 f2 f3 f4 f5
            have hjs := hall j (by omega)
            have hrec2 : batStep l (j + 1) = (batOk bi && (decide (j + 1 = 0) || decide (lastOf (rd_T28 l (j : Int)) < firstOf bi))) := by
              rw [hrec, show ((j + 1 : Nat) : Int) - 1 = (j : Int) by omega]
            unfold batStep at hjs
            have hbj := (Bool.and_eq_true_iff.1 hjs).1
            clear hjs
            generalize rd_T28 l (j : Int) = bj at *
            have hnj := batOk_len hbj
            have hni := batOk_len hok
            have cj : CellsB wr (ad.add (j * 6)) bj A4 c4 := ⟨f0, f1, f2, f3, f4, f5⟩
            have cj1 := cj.below hBr
            have hwj : IntKind.i64.wrap (j : Int) = (j : Int) := by rw [i64_w]; unfold wrap64; omega
            have hjl : (j : Int) < (l.length : Int) := by omega
            have HL := Aside0.mk (fun (W2 : World) (hb : Below wr.heap.size wr W2) => last_q bj A4 c4 W2 (Kd.C_below g4 hb) l4 hnj)
            have kS2 : ∀ w' : World, Below W1.heap.size W1 w' → CellsB w' ⟨wr.heap.size, 0, none⟩ bi A5 c5 ∧ CellsB w' (ad.add (j * 6)) bj A4 c4 ∧ Below W1.heap.size W1 w' := fun w' h => ⟨⟨pw_cell_below h (blk_cell bR 0), pw_cell_below h (blk_cell bR 1), pw_cell_below h (blk_cell bR 2), pw_cell_below h (blk_cell bR 3), pw_cell_below h (blk_cell bR 4), pw_cell_below h (blk_cell bR 5)⟩, cj1.below h, h⟩
            have hno := Aside0.mk hrec2
            clear hrec hrec2
            clear cj cj1 f0 f1 f2 f3 f4 f5 e0 e1 e2 e3 e4 e5
            go_region_held3 (fun w' => (w'.cell? ⟨wr.heap.size, 0, none⟩ = some (.bool bi.f0) ∧ w'.cell? ⟨wr.heap.size, 0 + 1, none⟩ = some (.bool bi.f1) ∧ w'.cell? ⟨wr.heap.size, 0 + 2, none⟩ = some (.int .i64 bi.f2) ∧ w'.cell? ⟨wr.heap.size, 0 + 3, none⟩ = some (.int .i64 bi.f3) ∧ w'.cell? ⟨wr.heap.size, 0 + 4, none⟩ = some (.int .i64 bi.f4) ∧ w'.cell? ⟨wr.heap.size, 0 + 5, none⟩ = some (.slice A5 bi.f5.length c5)) ∧ (w'.cell? (ad.add (j * 6)) = some (.bool bj.f0) ∧ w'.cell? ⟨(ad.add (j * 6)).block, (ad.add (j * 6)).off + 1, none⟩ = some (.bool bj.f1) ∧ w'.cell? ⟨(ad.add (j * 6)).block, (ad.add (j * 6)).off + 2, none⟩ = some (.int .i64 bj.f2) ∧ w'.cell? ⟨(ad.add (j * 6)).block, (ad.add (j * 6)).off + 3, none⟩ = some (.int .i64 bj.f3) ∧ w'.cell? ⟨(ad.add (j * 6)).block, (ad.add (j * 6)).off + 4, none⟩ = some (.int .i64 bj.f4) ∧ w'.cell? ⟨(ad.add (j * 6)).block, (ad.add (j * 6)).off + 5, none⟩ = some (.slice A4 bj.f5.length c4)) ∧ Below W1.heap.size W1 w') (first | exact kS2 _ (below_drew (Below.refl _ _)) | exact kS2 _ (below_step (below_drew (Below.refl _ _)) ‹_›) | exact kS2 _ (below_step (‹_ ∧ _ ∧ Below W1.heap.size W1 _›).2.2 ‹_›))
              (first | (go_at_call 47; refine (HRC.out _ (below_step hBr (by first | exact below_drew (Below.refl _ _) | exact (‹_ ∧ _ ∧ Below W1.heap.size W1 _›).2.2))).mono ?_; rintro e w' ⟨rfl, hb⟩) | (go_at_call 39; refine (HL.out _ (below_step hBr (by first | exact below_drew (Below.refl _ _) | exact (‹_ ∧ _ ∧ Below W1.heap.size W1 _›).2.2))).mono ?_; rintro e w' ⟨rfl, hb⟩) | (go_at_call 41; refine (HF.out _ (below_step hBr (by first | exact below_drew (Below.refl _ _) | exact (‹_ ∧ _ ∧ Below W1.heap.size W1 _›).2.2)) hni).mono ?_; rintro e w' ⟨rfl, hb⟩))
            all_goals
              have hBw := below_step hB2 (‹_ ∧ _ ∧ Below W1.heap.size W1 _›).2.2
              by_cases hc : lastOf bj < firstOf bi
              · have hst : ∀ j', j' < j + 1 + 1 → batStep l j' = true := by
                  intro j' hj
                  by_cases h' : j' < j + 1
                  · exact hall j' h'
                  · obtain rfl : j' = j + 1 := by omega
                    rw [hno.out, hok, decide_eq_true hc, Bool.or_true]; rfl
                have hng : ¬ firstOf bi ≤ lastOf bj := by omega
                go_wp2
                go_roundw
                case rel => first | exact ⟨j + 1 + 1, by simp, hlt, hst, hBw⟩ | ((repeat apply Exists.intro); refine ⟨⟨j + 1 + 1, ?_, hlt, hst, hBw⟩, by first | rfl | (repeat' apply And.intro) <;> rfl⟩; simp)
                case measure => simp [intOf]; omega
              · have hn2 := Aside0.mk (logs_no hlt (hno.out.trans (by rw [hok, decide_eq_false hc, decide_eq_false (show ¬ j + 1 = 0 by omega)]; rfl)))
                have hng : firstOf bi ≤ lastOf bj := by omega
                go_wp2
                go_ret
                exact ⟨by rw [hn2.out]; rfl, hBw⟩
      · obtain rfl : i = l.length := by omega
        go_wp2
        go_ret
        exact ⟨by rw [logs_of hall]; rfl, hB1⟩
  · rw [decide_eq_false h8, Bool.and_false]
    have hg : (8 : Int) < (l.length : Int) := by omega
    go_enter Tryd.func38, Tryd.ntmps38
    go_wp2
    go_ret
    exact ⟨rfl, Below.refl _ _⟩
def impl_LogValid.f (k : Nat) (a0 : List S28) : Option Bool := some (logOk a0)
theorem impl_LogValid.calls (k : Nat) (A0 : Option Addr) (c0 : Nat) (l0 : List (S28)) (r : Bool) (w : World) (hr0 : Kd.C k28 w A0 l0.length l0) (hc0 : l0.length ≤ c0) (h : impl_LogValid.f k l0 = some r) :
    Calls Tryd.prog 38 #[.slice A0 l0.length c0] w fun e w' => e = .returned (.bool r) ∧ Below w.heap.size w w' := by
  obtain rfl := Option.some.inj h
  exact impllog_q l0 A0 c0 w hr0 hc0
end Go.Proofs.YtfjkpdhldeopaaaDoor.G

namespace Go.Proofs.YtfjkpdhldeopaaaDoor.G
open Go.RowKit Go.Proofs.YtfjkpdhldeopaaaDoorW.PrintWords Go.Proofs.YtfjkpdhldeopaaaDoorW.PrintLast Go.Proofs.YtfjkpdhldeopaaaDoorW.PrintMore
attribute [local go_sem] max2_int min2_int max_two min_two max_three min_three max_four min_four   -- for this text's walks alone
set_option linter.unusedVariables false
set_option linter.unusedSimpArgs false

def impl_LogEven.l0 : Nat → List (S28) → List (S28) → Int → Int → Option ((List (S28)) × Bool)
 | 0, _, _, _, _ => none
 | k + 1, x4, x14, x15, x16 => if x16 < x15 then (if 0 ≤ x16 then (if x16 < (x14.length : Int) then (if (x4.length : Int) > 0 then (if 0 ≤ (wrap64 ((x4.length : Int) - 1)) then (if (wrap64 ((x4.length : Int) - 1)) < (x4.length : Int) then ((impl_BatchJoin.f k ((rd_T28 x4 (wrap64 ((x4.length : Int) - 1))).f0) ((rd_T28 x4 (wrap64 ((x4.length : Int) - 1))).f1) ((rd_T28 x4 (wrap64 ((x4.length : Int) - 1))).f2) ((rd_T28 x4 (wrap64 ((x4.length : Int) - 1))).f3) ((rd_T28 x4 (wrap64 ((x4.length : Int) - 1))).f4) ((rd_T28 x4 (wrap64 ((x4.length : Int) - 1))).f5) ((rd_T28 x14 x16).f0) ((rd_T28 x14 x16).f1) ((rd_T28 x14 x16).f2) ((rd_T28 x14 x16).f3) ((rd_T28 x14 x16).f4) ((rd_T28 x14 x16).f5)).bind fun bt581 => (if bt581.2.2.2.2.2.2 = true then (impl_LogEven.l0 k (x4.set ((wrap64 ((x4.length : Int) - 1)) : Int).toNat (⟨bt581.1, bt581.2.1, bt581.2.2.1, bt581.2.2.2.1, bt581.2.2.2.2.1, bt581.2.2.2.2.2.1⟩ : S28)) x14 x15 (wrap64 (x16 + 1))) else ((impl_Batch_copyOf.f k ((rd_T28 x14 x16).f0) ((rd_T28 x14 x16).f1) ((rd_T28 x14 x16).f2) ((rd_T28 x14 x16).f3) ((rd_T28 x14 x16).f4) ((rd_T28 x14 x16).f5)).bind fun bt592 => (if x4.length < 2513169434916 then (impl_LogEven.l0 k (x4 ++ [(⟨bt592.1, bt592.2.1, bt592.2.2.1, bt592.2.2.2.1, bt592.2.2.2.2.1, bt592.2.2.2.2.2⟩ : S28)]) x14 x15 (wrap64 (x16 + 1))) else (none))))) else (none)) else (none)) else ((impl_Batch_copyOf.f k ((rd_T28 x14 x16).f0) ((rd_T28 x14 x16).f1) ((rd_T28 x14 x16).f2) ((rd_T28 x14 x16).f3) ((rd_T28 x14 x16).f4) ((rd_T28 x14 x16).f5)).bind fun bt603 => (if x4.length < 2513169434916 then (impl_LogEven.l0 k (x4 ++ [(⟨bt603.1, bt603.2.1, bt603.2.2.1, bt603.2.2.2.1, bt603.2.2.2.2.1, bt603.2.2.2.2.2⟩ : S28)]) x14 x15 (wrap64 (x16 + 1))) else (none)))) else (none)) else (none)) else (some (x4, true))
def impl_LogEven.f (k : Nat) (l0 : List (S28)) : Option ((List (S28)) × Bool) := (impl_LogValid.f k l0).bind fun t574 => (if t574 = true then (impl_LogEven.l0 k (([] : List (S28))) l0 (l0.length : Int) 0) else (some (([] : List (S28)), false)))
end Go.Proofs.YtfjkpdhldeopaaaDoor.G

namespace Go.Proofs.YtfjkpdhldeopaaaDoor.G
open Go.RowKit Go.Proofs.YtfjkpdhldeopaaaDoorW.PrintWords Go.Proofs.YtfjkpdhldeopaaaDoorW.PrintLast Go.Proofs.YtfjkpdhldeopaaaDoorW.PrintMore
set_option linter.unusedVariables false
set_option linter.unusedSimpArgs false
/-- Six cells. -/
abbrev At6 (W : World) (p : Addr) (v0 v1 v2 v3 v4 v5 : Value) : Prop := W.cell? p = some v0 ∧ W.cell? ⟨p.block, p.off + 1, none⟩ = some v1 ∧ W.cell? ⟨p.block, p.off + 2, none⟩ = some v2 ∧ W.cell? ⟨p.block, p.off + 3, none⟩ = some v3 ∧ W.cell? ⟨p.block, p.off + 4, none⟩ = some v4 ∧ W.cell? ⟨p.block, p.off + 5, none⟩ = some v5
/-- A row of which one element's cells are known. -/
def rowE {α : Type} (d : Kd α) (e b : Nat) (v : Value) (xs : List α) (P : Nat → Prop) (p : Addr) (v0 v1 v2 v3 v4 v5 : Value) : En := .row (fun W => Kd.S d e W b P v xs ∧ At6 W p v0 v1 v2 v3 v4 v5) P
section
variable {α : Type} {d : Kd α} {e b i j : Nat} {w W : World} {es : List En} {v v0 v1 v2 v3 v4 v5 : Value} {xs : List α} {P : Nat → Prop} {p : Addr}
theorem St.look (h : St w W es) (i : Nat) (he : es[i]? = some (rowS d e b v xs P)) (ha : At6 W p v0 v1 v2 v3 v4 v5) (hp : P p.block) : St w W (es.set i (rowE d e b v xs P p v0 v1 v2 v3 v4 v5)) := by
  have hlt : p.block < W.heap.size := h.lt i he _ hp
  refine h.mark i he (rowE d e b v xs P p v0 v1 v2 v3 v4 v5) rfl h.below (Kept.refl _ _) (fun W2 hW => ⟨Kd.S_step (h.getS i he) hW, ?_⟩)
  have hb : W2.heap[p.block]? = W.heap[p.block]? := hW _ hp hlt
  obtain ⟨a0, a1, a2, a3, a4, a5⟩ := ha
  have hc : ∀ off, W2.cell? ⟨p.block, off, none⟩ = W.cell? ⟨p.block, off, none⟩ := fun off => World.cell?_of_block hb
  exact ⟨(World.cell?_of_block hb).trans a0, (hc _).trans a1, (hc _).trans a2, (hc _).trans a3, (hc _).trans a4, (hc _).trans a5⟩
theorem St.unlook (h : St w W es) (i : Nat) (he : es[i]? = some (rowE d e b v xs P p v0 v1 v2 v3 v4 v5)) : St w W (es.set i (rowS d e b v xs P)) := by
  have h1 : Kd.S d e W b P v xs ∧ _ := h.get i he
  exact h.mark i he (rowS d e b v xs P) rfl h.below (Kept.refl _ _) (foot_S h1.1)
theorem St.keep6 {g t : Nat} {cs : Array Value} (h : St w W es) (h1 : es[i]? = some (boxE g cs t)) (h2 : es[j]? = some (rowE d e b v xs P p v0 v1 v2 v3 v4 v5)) : (∀ j, W.cell? ⟨g, j, none⟩ = cs[j]?) ∧ At6 W p v0 v1 v2 v3 v4 v5 := ⟨(h.cells i h1).1, (h.get j h2).2⟩
theorem St.toEl {x : α} {c : List Value} {β : Type} {d2 : Kd β} {e2 : Nat} {u : Value} {ys : List β} (h : St w W es) (i : Nat) (he : es[i]? = some (rowS d2 e2 b u ys P)) (hM : Kd.S d2 e2 W b P u ys → d.M W b P x c) : St w W (es.set i (elE d b x c P)) :=
  h.mark i he (elE d b x c P) rfl h.below (Kept.refl _ _) (foot_M (hM (h.getS i he)))
end
theorem own_rec {w W : World} {es : List En} {j : Nat} {b : Nat} {cap : Nat} {xs : List S28} {P : Nat → Prop} {ao : Addr} {m : Int} {A9 : Option Addr} {c9 : Nat} {v0 v1 v2 v3 v4 : Value} (h : St w W es) (he : es[j]? = some (rowE kB 28 b (.slice (some ao) xs.length cap) xs P (ao.add (m.toNat * 6)) v0 v1 v2 v3 v4 (.slice A9 (rd_T28 xs m).f5.length c9))) (h0 : 0 ≤ m) (h1 : m < (xs.length : Int)) :
    Kd.C k62 W A9 (rd_T28 xs m).f5.length (rd_T28 xs m).f5 ∧ (rd_T28 xs m).f5.length ≤ c9 := by
  have hq : Kd.S kB 28 W b P (.slice (some ao) xs.length cap) xs ∧ At6 W _ _ _ _ _ _ _ := h.get j he
  obtain ⟨ad, A5, c5, e_, x0, x1, x2, x3, x4, x5, hl5, hi5⟩ := at_T28 (kB_C (Kd.S_reads' hq.1).2.2) m h0 h1
  cases e_
  have h5 := hq.2.2.2.2.2.2
  rw [x5] at h5
  injection h5 with h5
  injection h5 with e1 e2 e3
  subst e1
  subst e3
  exact ⟨hi5, hl5⟩
set_option maxHeartbeats 4000000 in
set_option maxRecDepth 100000 in
theorem impl_LogEven.callsB [ErrA] (k : Nat) (A : Option Addr) (c : Nat) (l : List S28) (r1 : List S28) (r2 : Bool) (w : World) (hE : ErrOk [0] w) (hr : Kd.C k28 w A l.length l) (hc : l.length ≤ c) (h : impl_LogEven.f k l = some (r1, r2)) :
    Calls Tryd.prog 24 #[.slice A l.length c] w fun e w' => ∃ v : Value, e = .returned (.tuple #[v, .bool r2]) ∧ Kd.S kB 28 w' w.heap.size (fun _ => True) v r1 ∧ Below w.heap.size w w' := by
  have HE := Aside0.mk hE
  have HR := Aside0.mk hr
  have HC := Aside0.mk hc
  have HS := Aside0.mk (St.nil w)
  have hu := Tryd.underlying28
  clear hE hr hc
  unfold impl_LogEven.f at h
  obtain ⟨vb, hvb, h⟩ := Option.bind_eq_some_iff.mp h
  have HV := Aside0.mk hvb
  have HH := Aside0.mk h
  clear h hvb
  go_enter Tryd.func24, Tryd.ntmps24
  cases vb
  · have hj := HH.out
    simp only [Bool.false_eq_true, if_false] at hj
    cases hj
    go_wp2_with (first | (go_at_call 38; with_reducible refine (impl_LogValid.calls k A c l _ _ (Kd.C_below HR.out HS.out.below) HC.out HV.out).mono ?_; rintro e W ⟨rfl, hb⟩; replace HS := Aside0.mk (HS.out.call hb); clear hb))
    refine bodyPost_ret (results_list (rs := [.tmp 2, .tmp 3]) rfl (by simp) (.tmp (.tmp .nil))) rfl ?_
    exact ⟨_, by rfl, Kd.S_nil _ _ _ _ _, HS.out.below⟩
  · have HJ := Aside0.mk (show impl_LogEven.l0 k [] l (l.length : Int) 0 = some (r1, r2) by have := HH.out; simpa using this)
    clear HH
    go_wp2_with (first | (go_at_call 38; with_reducible refine (impl_LogValid.calls k A c l _ _ (Kd.C_below HR.out HS.out.below) HC.out HV.out).mono ?_; rintro e W ⟨rfl, hb⟩; replace HS := Aside0.mk (HS.out.call hb); clear hb) | ((with_reducible refine gate_dst (N := 13) rfl ?_); refine Kd.S_lit kB (w0 := _) _ 28 rfl (N := 13) rfl (xs := []) (inner := []) (ok := fun _ => True) (okp := fun _ => True) (by first | (go_simp; done) | (go_simp; rfl)) (Reps.none _ _) (fun _ _ => trivial) trivial (Below.refl _ _) (Nat.le_refl _) (by simp) ?_; intro v W hs hb hg hat; clear hg hat; obtain ⟨V, q, rfl⟩ := Kd.S_slice hs; replace HS := Aside0.mk (HS.out.pushS hs hb); clear hs hb))
    go_loopg [4, 16] k (fun kq v4 v16 wr => ∃ (x : Int) (xs : List S28) (V : Option Addr) (q : Nat) (P : Nat → Prop), v4 = .slice V xs.length q ∧ v16 = .int .i64 x ∧ Aside0 (impl_LogEven.l0 kq xs l (l.length : Int) x = some (r1, r2)) ∧ Aside0 (kq ≤ k) ∧ Aside0 (St w wr [rowS kB 28 w.heap.size (.slice V xs.length q) xs P]))
    case atStart => exact ⟨0, [], _, _, _, rfl, rfl, HJ, ⟨Nat.le_refl _⟩, HS⟩
    case round =>
      clear HJ HS
      obtain ⟨x, xs, V, q, P, rfl, rfl, HA, HK, HS⟩ := hrel
      cases gk with
      | zero => exact absurd HA.out (by simp [impl_LogEven.l0])
      | succ k2 =>
        have H := HA.out
        clear HA
        simp only [impl_LogEven.l0] at H
        by_cases c1 : x < (l.length : Int)
        · rw [if_pos c1] at H
          by_cases c2 : 0 ≤ x
          case neg => rw [if_neg c2] at H; cases H
          rw [if_pos c2, if_pos c1] at H
          obtain ⟨ad, A5, c5, e_, x0, x1, x2, x3, x4, x5, hl5, hi5⟩ := at_T28 HR.out x c2 c1
          cases e_
          replace x0 := (HS.out.below.cell (World.block_lt_of_cell? w _ x0)).trans x0
          replace x1 := (HS.out.below.cell (World.block_lt_of_cell? w _ x1)).trans x1
          replace x2 := (HS.out.below.cell (World.block_lt_of_cell? w _ x2)).trans x2
          replace x3 := (HS.out.below.cell (World.block_lt_of_cell? w _ x3)).trans x3
          replace x4 := (HS.out.below.cell (World.block_lt_of_cell? w _ x4)).trans x4
          replace x5 := (HS.out.below.cell (World.block_lt_of_cell? w _ x5)).trans x5
          have HI := Aside0.mk (And.intro hl5 hi5)
          clear hl5 hi5
          replace c1 := eq_true c1
          replace c2 := eq_true c2
          by_cases c3 : (xs.length : Int) > 0
          rotate_left
          · rw [if_neg c3] at H
            obtain ⟨⟨u0, u1, u2, u3, u4, u5⟩, hcu, H⟩ := Option.bind_eq_some_iff.mp H
            by_cases c7 : xs.length < 2513169434916
            case neg => simp only [if_neg c7] at H; cases H
            simp only [if_pos c7] at H
            obtain ⟨zs, hzs⟩ : ∃ zs, zs = xs ++ [(⟨u0, u1, u2, u3, u4, u5⟩ : S28)] := ⟨_, rfl⟩
            rw [← hzs] at H
            have HZ := Aside0.mk hzs
            clear hzs
            have HU := Aside0.mk hcu
            have HP := Aside0.mk c7
            have HA := Aside0.mk H
            clear hcu c7 H
            have d0 : decide (0 < (xs.length : Int)) = false := decide_eq_false c3
            have d1 : decide (0 < xs.length) = false := decide_eq_false (by omega)
            have d2 : decide ((xs.length : Int) > 0) = false := decide_eq_false c3
            go_wp2_with (first | ((with_reducible refine gate_dst (N := 6) rfl ?_); refine w_box HS rfl rfl (by go_simp; try rfl) ?_; intro g6 W h_; clear HS; have HS := h_; clear h_; obtain ⟨f0, f1⟩ := HS.out.cells 0 rfl) | ((with_reducible refine gate_store (t := 28) (p := 6) rfl ?_); refine w_put rfl rfl (by go_simp; try rfl) (HS.out.set6 0 rfl _ _ _ _ _ _) ?_; intro W h_; clear HS f0 f1; have HS := h_; clear h_; obtain ⟨f0, f1⟩ := HS.out.cells 0 rfl) | (go_at_call 40; with_reducible refine (impl_Batch_copyOf.calls k2 (rd_T28 l x).f0 (rd_T28 l x).f1 (rd_T28 l x).f2 (rd_T28 l x).f3 (rd_T28 l x).f4 _ _ (rd_T28 l x).f5 u0 u1 u2 u3 u4 u5 _ (Kd.C_below HI.out.2 HS.out.below) HI.out.1 HU.out).mono ?_; rintro e W ⟨v, rfl, hs, hb⟩; obtain ⟨Y, y, rfl⟩ := Kd.S_slice hs; replace HS := Aside0.mk (HS.out.pushM (kB_mkM W _ (fun _ => True) (⟨u0, u1, u2, u3, u4, u5⟩ : S28) hs) hb); clear hs hb) | ((with_reducible refine gate_dst (N := 44) rfl ?_); refine S_app1 (d := kB) (e := 28) ((HS.out.front 2 rfl).front 1 rfl) rfl (.tmp 40) (.tmp 43) 40 (.agg #[.bool false, .bool false, .int .i64 0, .int .i64 0, .int .i64 0, .slice none 0 0]) 56 rfl Tryd.underlying40 (by kernel_rfl) rfl (by decide) (by omega) rfl rfl (by have := HP.out; omega) ?_; intro v1 W P1 HS3; rw [← HZ.out] at HS3; obtain ⟨V1, q1, rfl⟩ := Kd.S_slice (HS3.getS 0 rfl); replace HS := Aside0.mk HS3; clear HS3))
            go_roundg k2
            case measure => omega
            case rel => exact ⟨_, zs, V1, q1, P1, rfl, rfl, HA, ⟨by have := HK.out; omega⟩, ⟨HS.out.head1⟩⟩
          · rw [if_pos c3] at H
            have hm0 : wrap64 ((xs.length : Int) - 1) = (xs.length : Int) - 1 := by have := (Kd.S_reads' (HS.out.getS 0 rfl)).2.2.2.1; simp only [wrap64]; omega
            have b0 : 0 ≤ (wrap64 ((xs.length : Int) - 1)) := by omega
            have b1 : (wrap64 ((xs.length : Int) - 1)) < (xs.length : Int) := by omega
            rw [if_pos b0, if_pos b1] at H
            obtain ⟨⟨t0, t1, t2, t3, t4, t5, ok⟩, hcp, H⟩ := Option.bind_eq_some_iff.mp H
            have HQ := Aside0.mk hcp
            have HH := Aside0.mk H
            have HM := Aside0.mk (And.intro b0 b1)
            clear hcp H hm0
            obtain ⟨ao, A9, c9, e_, y0, y1, y2, y3, y4, y5, _, _⟩ := at_T28 (kB_C (HS.out.getC 0 rfl)) (wrap64 ((xs.length : Int) - 1)) b0 b1
            cases e_
            replace HS := Aside0.mk (HS.out.look 0 rfl ⟨y0, y1, y2, y3, y4, y5⟩ ((Kd.S_R (HS.out.getS 0 rfl)).1 _ (by simp [Value.ownBlock, Addr.add]; (try (split <;> rfl)))))
            clear y0 y1 y2 y3 y4 y5
            have d0 : (0 < (xs.length : Int)) = True := eq_true c3
            have d1 : (0 < xs.length) = True := eq_true (by omega)
            replace b0 := eq_true b0
            replace b1 := eq_true b1
            clear c3
            go_upto_region 9 with (first | ((with_reducible refine gate_dst (N := 6) rfl ?_); refine w_box HS rfl rfl (by go_simp; try rfl) ?_; intro g6 W h_; clear HS; have HS := h_; clear h_; obtain ⟨f0, f1⟩ := HS.out.cells 0 rfl) | ((with_reducible refine gate_store (t := 28) (p := 6) rfl ?_); refine w_put rfl rfl (by go_simp; try rfl) (HS.out.set6 0 rfl _ _ _ _ _ _) ?_; intro W h_; clear HS f0 f1; have HS := h_; clear h_; obtain ⟨f0, f1⟩ := HS.out.cells 0 rfl))
            simp only [List.set_cons_zero] at HS
            clear x0 x1 x2 x3 x4 x5 f0 f1
            have hwi : IntKind.i64.wrap ((xs.length : Int) - 1) = (wrap64 ((xs.length : Int) - 1)) := i64_w _
            go_cut [8, 9] (fun v8 v9 wc => ∃ (g8 : Nat) (Y : Option Addr) (y : Nat) (P8 : Nat → Prop), v8 = .pointer (some ⟨g8, 0, none⟩) ∧ v9 = .bool ok ∧ Aside0 (St w wc [batE g8 t0 t1 t2 t3 t4 (.slice Y t5.length y), rowS k62 62 w.heap.size (.slice Y t5.length y) t5 P8, boxE g6 #[.bool (rd_T28 l x).f0, .bool (rd_T28 l x).f1, .int .i64 (rd_T28 l x).f2, .int .i64 (rd_T28 l x).f3, .int .i64 (rd_T28 l x).f4, .slice A5 (rd_T28 l x).f5.length c5] 28, rowE kB 28 w.heap.size (.slice (some ao) xs.length q) xs P (ao.add ((wrap64 ((xs.length : Int) - 1)).toNat * 6)) (.bool (rd_T28 xs (wrap64 ((xs.length : Int) - 1))).f0) (.bool (rd_T28 xs (wrap64 ((xs.length : Int) - 1))).f1) (.int .i64 (rd_T28 xs (wrap64 ((xs.length : Int) - 1))).f2) (.int .i64 (rd_T28 xs (wrap64 ((xs.length : Int) - 1))).f3) (.int .i64 (rd_T28 xs (wrap64 ((xs.length : Int) - 1))).f4) (.slice A9 (rd_T28 xs (wrap64 ((xs.length : Int) - 1))).f5.length c9)]))
            case first =>
              go_region_held3 (fun w' => (∀ j, w'.cell? ⟨g6, j, none⟩ = #[.bool (rd_T28 l x).f0, .bool (rd_T28 l x).f1, .int .i64 (rd_T28 l x).f2, .int .i64 (rd_T28 l x).f3, .int .i64 (rd_T28 l x).f4, .slice A5 (rd_T28 l x).f5.length c5][j]?) ∧ w'.cell? (ao.add ((wrap64 ((xs.length : Int) - 1)).toNat * 6)) = some (.bool (rd_T28 xs (wrap64 ((xs.length : Int) - 1))).f0) ∧ w'.cell? ⟨(ao.add ((wrap64 ((xs.length : Int) - 1)).toNat * 6)).block, (ao.add ((wrap64 ((xs.length : Int) - 1)).toNat * 6)).off + 1, none⟩ = some (.bool (rd_T28 xs (wrap64 ((xs.length : Int) - 1))).f1) ∧ w'.cell? ⟨(ao.add ((wrap64 ((xs.length : Int) - 1)).toNat * 6)).block, (ao.add ((wrap64 ((xs.length : Int) - 1)).toNat * 6)).off + 2, none⟩ = some (.int .i64 (rd_T28 xs (wrap64 ((xs.length : Int) - 1))).f2) ∧ w'.cell? ⟨(ao.add ((wrap64 ((xs.length : Int) - 1)).toNat * 6)).block, (ao.add ((wrap64 ((xs.length : Int) - 1)).toNat * 6)).off + 3, none⟩ = some (.int .i64 (rd_T28 xs (wrap64 ((xs.length : Int) - 1))).f3) ∧ w'.cell? ⟨(ao.add ((wrap64 ((xs.length : Int) - 1)).toNat * 6)).block, (ao.add ((wrap64 ((xs.length : Int) - 1)).toNat * 6)).off + 4, none⟩ = some (.int .i64 (rd_T28 xs (wrap64 ((xs.length : Int) - 1))).f4) ∧ w'.cell? ⟨(ao.add ((wrap64 ((xs.length : Int) - 1)).toNat * 6)).block, (ao.add ((wrap64 ((xs.length : Int) - 1)).toNat * 6)).off + 5, none⟩ = some (.slice A9 (rd_T28 xs (wrap64 ((xs.length : Int) - 1))).f5.length c9)) (first | (apply St.keep6 (w := w) (i := 0) (j := 1) (g := g6) (cs := #[.bool (rd_T28 l x).f0, .bool (rd_T28 l x).f1, .int .i64 (rd_T28 l x).f2, .int .i64 (rd_T28 l x).f3, .int .i64 (rd_T28 l x).f4, .slice A5 (rd_T28 l x).f5.length c5]) (t := 28) (d := kB) (e := 28) (b := w.heap.size) (v := .slice (some ao) xs.length q) (xs := xs) (P := P); (focus ((repeat (first | (with_reducible apply St.drew) | (with_reducible apply St.al))); with_reducible exact HS.out)); (focus (exact rfl)); exact rfl) | (apply St.keep6 (w := w) (i := 1) (j := 2) (g := g6) (cs := #[.bool (rd_T28 l x).f0, .bool (rd_T28 l x).f1, .int .i64 (rd_T28 l x).f2, .int .i64 (rd_T28 l x).f3, .int .i64 (rd_T28 l x).f4, .slice A5 (rd_T28 l x).f5.length c5]) (t := 28) (d := kB) (e := 28) (b := w.heap.size) (v := .slice (some ao) xs.length q) (xs := xs) (P := P); (focus ((repeat (first | (with_reducible apply St.drew) | (with_reducible apply St.al))); with_reducible exact HS.out)); (focus (exact rfl)); exact rfl) | (apply St.keep6 (w := w) (i := 2) (j := 3) (g := g6) (cs := #[.bool (rd_T28 l x).f0, .bool (rd_T28 l x).f1, .int .i64 (rd_T28 l x).f2, .int .i64 (rd_T28 l x).f3, .int .i64 (rd_T28 l x).f4, .slice A5 (rd_T28 l x).f5.length c5]) (t := 28) (d := kB) (e := 28) (b := w.heap.size) (v := .slice (some ao) xs.length q) (xs := xs) (P := P); (focus ((repeat (first | (with_reducible apply St.drew) | (with_reducible apply St.al))); with_reducible exact HS.out)); (focus (exact rfl)); exact rfl) | (have h_ := (HS.out.set6 1 rfl (.bool t0) (.bool t1) (.int .i64 t2) (.int .i64 t3) (.int .i64 t4) (.slice Y t5.length y)).keep6 (i := 2) (j := 3) rfl rfl; with_reducible exact h_) | (have h_ := (HS.out.al (cs := #[.bool t0, .bool t1, .int .i64 t2, .int .i64 t3, .int .i64 t4, .slice Y t5.length y]) (t := 28)).keep6 (i := 2) (j := 3) rfl rfl; with_reducible exact h_)) (first | (go_at_call 10; apply calls_st (w := w); (focus ((repeat (first | (with_reducible apply St.drew) | (with_reducible apply St.al))); with_reducible exact HS.out)); intro HS2; clear HS; have HS := HS2; clear HS2; have ho := own_rec (ao := ao) (xs := xs) (P := P) (m := (wrap64 ((xs.length : Int) - 1))) (A9 := A9) (c9 := c9) (b := w.heap.size) (cap := q) (v0 := .bool (rd_T28 xs (wrap64 ((xs.length : Int) - 1))).f0) (v1 := .bool (rd_T28 xs (wrap64 ((xs.length : Int) - 1))).f1) (v2 := .int .i64 (rd_T28 xs (wrap64 ((xs.length : Int) - 1))).f2) (v3 := .int .i64 (rd_T28 xs (wrap64 ((xs.length : Int) - 1))).f3) (v4 := .int .i64 (rd_T28 xs (wrap64 ((xs.length : Int) - 1))).f4) HS.out (j := 2) rfl HM.out.1 HM.out.2; with_reducible refine (impl_BatchJoin.callsS k2 (rd_T28 xs (wrap64 ((xs.length : Int) - 1))).f0 (rd_T28 xs (wrap64 ((xs.length : Int) - 1))).f1 (rd_T28 xs (wrap64 ((xs.length : Int) - 1))).f2 (rd_T28 xs (wrap64 ((xs.length : Int) - 1))).f3 (rd_T28 xs (wrap64 ((xs.length : Int) - 1))).f4 _ _ (rd_T28 xs (wrap64 ((xs.length : Int) - 1))).f5 (rd_T28 l x).f0 (rd_T28 l x).f1 (rd_T28 l x).f2 (rd_T28 l x).f3 (rd_T28 l x).f4 _ _ (rd_T28 l x).f5 t0 t1 t2 t3 t4 t5 ok _ (ErrOk.below HE.out HS.out.below) ho.1 ho.2 (Kd.C_below HI.out.2 HS.out.below) HI.out.1 HQ.out).mono ?_; clear ho; rintro e W2 ⟨v, rfl, hs, hb⟩; obtain ⟨Y, y, rfl⟩ := Kd.S_slice hs; replace HS := Aside0.mk (HS.out.pushS hs hb); clear hs hb; (try (obtain ⟨q0, q1⟩ := HS.out.cells (cs := #[.bool false, .bool false, .int .i64 0, .int .i64 0, .int .i64 0, .slice none 0 0]) (t := 28) 1 rfl))) | (go_at_call 10; apply calls_st (w := w); (focus ((repeat (first | (with_reducible apply St.drew) | (with_reducible apply St.al))); with_reducible exact HS.out)); intro HS2; clear HS; have HS := HS2; clear HS2; have ho := own_rec (ao := ao) (xs := xs) (P := P) (m := (wrap64 ((xs.length : Int) - 1))) (A9 := A9) (c9 := c9) (b := w.heap.size) (cap := q) (v0 := .bool (rd_T28 xs (wrap64 ((xs.length : Int) - 1))).f0) (v1 := .bool (rd_T28 xs (wrap64 ((xs.length : Int) - 1))).f1) (v2 := .int .i64 (rd_T28 xs (wrap64 ((xs.length : Int) - 1))).f2) (v3 := .int .i64 (rd_T28 xs (wrap64 ((xs.length : Int) - 1))).f3) (v4 := .int .i64 (rd_T28 xs (wrap64 ((xs.length : Int) - 1))).f4) HS.out (j := 1) rfl HM.out.1 HM.out.2; with_reducible refine (impl_BatchJoin.callsS k2 (rd_T28 xs (wrap64 ((xs.length : Int) - 1))).f0 (rd_T28 xs (wrap64 ((xs.length : Int) - 1))).f1 (rd_T28 xs (wrap64 ((xs.length : Int) - 1))).f2 (rd_T28 xs (wrap64 ((xs.length : Int) - 1))).f3 (rd_T28 xs (wrap64 ((xs.length : Int) - 1))).f4 _ _ (rd_T28 xs (wrap64 ((xs.length : Int) - 1))).f5 (rd_T28 l x).f0 (rd_T28 l x).f1 (rd_T28 l x).f2 (rd_T28 l x).f3 (rd_T28 l x).f4 _ _ (rd_T28 l x).f5 t0 t1 t2 t3 t4 t5 ok _ (ErrOk.below HE.out HS.out.below) ho.1 ho.2 (Kd.C_below HI.out.2 HS.out.below) HI.out.1 HQ.out).mono ?_; clear ho; rintro e W2 ⟨v, rfl, hs, hb⟩; obtain ⟨Y, y, rfl⟩ := Kd.S_slice hs; replace HS := Aside0.mk (HS.out.pushS hs hb); clear hs hb; (try (obtain ⟨q0, q1⟩ := HS.out.cells (cs := #[.bool false, .bool false, .int .i64 0, .int .i64 0, .int .i64 0, .slice none 0 0]) (t := 28) 1 rfl))))
              all_goals
                go_step
                go_step
                go_meet
                case rel => first | (have h_ := HS.out.al (cs := #[.bool t0, .bool t1, .int .i64 t2, .int .i64 t3, .int .i64 t4, .slice Y t5.length y]) (t := 28); with_reducible exact ⟨_, _, _, _, rfl, rfl, ⟨h_⟩⟩) | (have h_ := (HS.out.set6 1 rfl (.bool t0) (.bool t1) (.int .i64 t2) (.int .i64 t3) (.int .i64 t4) (.slice Y t5.length y)).front 1 rfl; simp only [List.eraseIdx_cons_zero, List.eraseIdx_cons_succ, List.set_cons_zero, List.set_cons_succ] at h_; with_reducible exact ⟨_, _, _, _, rfl, rfl, ⟨h_⟩⟩)
            case rest =>
              obtain ⟨g8, Y, y, P8, rfl, rfl, HS⟩ := hcut
              replace HS := Aside0.mk (HS.out.unlook 3 rfl)
              have H := HH.out
              clear HH
              cases ok
              rotate_left
              · simp only [if_true] at H
                have HA := Aside0.mk H
                clear H
                obtain ⟨g, cap', e0, hgb, hgl, cells, hgc⟩ := Kd.S_form (HS.out.getS 3 rfl) (by have := HM.out; omega)
                injection e0 with e1 e2 e3
                injection e1 with e1
                subst e1
                subst e3
                clear e2 hgb hgl hgc
                replace HS := Aside0.mk (((HS.out.toEl (d := kB) (x := (⟨t0, t1, t2, t3, t4, t5⟩ : S28)) (c := [.bool t0, .bool t1, .int .i64 t2, .int .i64 t3, .int .i64 t4, .slice Y t5.length y]) 1 rfl (fun h => kB_mkM _ _ _ (⟨t0, t1, t2, t3, t4, t5⟩ : S28) h)).front 3 rfl).front 2 rfl)
                obtain ⟨f0, f1⟩ := HS.out.cells 2 rfl
                go_wp2_with (first | ((with_reducible refine gate_store (t := 28) (p := 39) rfl ?_); refine St_store (d := kB) z28 HS.out rfl rfl 28 (.tmp 39) (.tmp 38) rfl rfl rfl rfl (by kernel_rfl) HM.out.1 HM.out.2 ?_; intro W P1 h_; clear HS f0 f1; have HS := Aside0.mk h_; clear h_))
                go_roundg k2
                case measure => omega
                case rel => exact ⟨_, xs.set (wrap64 ((xs.length : Int) - 1)).toNat ⟨t0, t1, t2, t3, t4, t5⟩, _, _, P1, by rw [List.length_set], rfl, HA, ⟨by have := HK.out; omega⟩, ⟨by rw [List.length_set]; exact HS.out.head1⟩⟩
              · simp only [Bool.false_eq_true, if_false] at H
                obtain ⟨⟨u0, u1, u2, u3, u4, u5⟩, hcu, H⟩ := Option.bind_eq_some_iff.mp H
                by_cases c7 : xs.length < 2513169434916
                case neg => simp only [if_neg c7] at H; cases H
                simp only [if_pos c7] at H
                obtain ⟨zs, hzs⟩ : ∃ zs, zs = xs ++ [(⟨u0, u1, u2, u3, u4, u5⟩ : S28)] := ⟨_, rfl⟩
                rw [← hzs] at H
                have HZ := Aside0.mk hzs
                clear hzs
                have HU := Aside0.mk hcu
                have HP := Aside0.mk c7
                have HA := Aside0.mk H
                clear hcu c7 H
                obtain ⟨f0, f1⟩ := HS.out.cells 2 rfl
                go_wp2_with (first | (go_at_call 40; with_reducible refine (impl_Batch_copyOf.calls k2 (rd_T28 l x).f0 (rd_T28 l x).f1 (rd_T28 l x).f2 (rd_T28 l x).f3 (rd_T28 l x).f4 _ _ (rd_T28 l x).f5 u0 u1 u2 u3 u4 u5 _ (Kd.C_below HI.out.2 HS.out.below) HI.out.1 HU.out).mono ?_; rintro e W ⟨v, rfl, hs, hb⟩; obtain ⟨Y, y, rfl⟩ := Kd.S_slice hs; replace HS := Aside0.mk (HS.out.pushM (kB_mkM W _ (fun _ => True) (⟨u0, u1, u2, u3, u4, u5⟩ : S28) hs) hb); clear hs hb) | ((with_reducible refine gate_dst (N := 44) rfl ?_); refine S_app1 (d := kB) (e := 28) ((HS.out.front 4 rfl).front 1 rfl) rfl (.tmp 40) (.tmp 43) 40 (.agg #[.bool false, .bool false, .int .i64 0, .int .i64 0, .int .i64 0, .slice none 0 0]) 56 rfl Tryd.underlying40 (by kernel_rfl) rfl (by decide) (by omega) rfl rfl (by have := HP.out; omega) ?_; intro v1 W P1 HS3; rw [← HZ.out] at HS3; obtain ⟨V1, q1, rfl⟩ := Kd.S_slice (HS3.getS 0 rfl); replace HS := Aside0.mk HS3; clear HS3))
                go_roundg k2
                case measure => omega
                case rel => exact ⟨_, zs, V1, q1, P1, rfl, rfl, HA, ⟨by have := HK.out; omega⟩, ⟨HS.out.head1⟩⟩
        · rw [if_neg c1] at H
          cases H
          have c0 : decide (x < (l.length : Int)) = false := decide_eq_false c1
          go_wp2
          refine bodyPost_ret (results_list (rs := [.tmp 2, .tmp 3]) rfl (by simp) (.tmp (.tmp .nil))) rfl ?_
          exact ⟨_, by rfl, Kd.S_mono (HS.out.getS 0 rfl) (fun _ _ => trivial), HS.out.below⟩
end Go.Proofs.YtfjkpdhldeopaaaDoor.G

namespace Go.Proofs.YtfjkpdhldeopaaaDoor.G
open Go.RowKit Go.Proofs.YtfjkpdhldeopaaaDoorW.PrintWords Go.Proofs.YtfjkpdhldeopaaaDoorW.PrintLast Go.Proofs.YtfjkpdhldeopaaaDoorW.PrintMore
attribute [local go_sem] max2_int min2_int max_two min_two max_three min_three max_four min_four   -- for this text's walks alone
set_option linter.unusedVariables false
set_option linter.unusedSimpArgs false

def laws_eqBatchS.l0 : Nat → List (S28) → List (S28) → Int → Option (Bool)
 | 0, _, _, _ => none
 | k + 1, x0, x1, x5 => if x5 < (x0.length : Int) then (if 0 ≤ x5 then (if x5 < (x1.length : Int) then ((laws_eqBatch.f k ((rd_T28 x0 x5).f0) ((rd_T28 x0 x5).f1) ((rd_T28 x0 x5).f2) ((rd_T28 x0 x5).f3) ((rd_T28 x0 x5).f4) ((rd_T28 x0 x5).f5) ((rd_T28 x1 x5).f0) ((rd_T28 x1 x5).f1) ((rd_T28 x1 x5).f2) ((rd_T28 x1 x5).f3) ((rd_T28 x1 x5).f4) ((rd_T28 x1 x5).f5)).bind fun t525 => (if t525 = true then (laws_eqBatchS.l0 k x0 x1 (wrap64 (x5 + 1))) else (some false))) else (none)) else (none)) else (some true)
def laws_eqBatchS.f (k : Nat) (l0 : List (S28)) (l1 : List (S28)) : Option (Bool) := if (l0.length : Int) = (l1.length : Int) then (laws_eqBatchS.l0 k l0 l1 0) else (some false)
def laws_eqBatchS.T6 : Bool × List (List Nat × List Nat) := (true, [([], []), ([], []), ([0, 1], [0, 1]), ([2], [2]), ([], []), ([], []), ([4, 5], [4, 5]), ([6], [6]), ([3, 7], [3, 7]), ([8], [8])])
def laws_eqBatchS.B6 : List Nat := [0, 0, 3, 7, 0, 0, 48, 112, 255, 511]
theorem laws_eqBatchS.tab6 : rtab .any (opsOf Tryd.f20 6) = laws_eqBatchS.T6 := by kernel_rfl
theorem laws_eqBatchS.bits6 : waitsOk laws_eqBatchS.T6.2 laws_eqBatchS.B6 = true := by kernel_rfl
set_option maxHeartbeats 8000000 in
set_option maxRecDepth 100000 in
theorem laws_eqBatchS.calls (k : Nat) (A0 : Option Addr) (c0 : Nat) (l0 : List (S28)) (A1 : Option Addr) (c1 : Nat) (l1 : List (S28)) (r : Bool) (w : World) (hr0 : Kd.C k28 w A0 l0.length l0) (hc0 : l0.length ≤ c0) (hr1 : Kd.C k28 w A1 l1.length l1) (hc1 : l1.length ≤ c1) (h : laws_eqBatchS.f k l0 l1 = some r) :
  Calls Tryd.prog 20 #[.slice A0 l0.length c0, .slice A1 l1.length c1] w fun e w' => e = .returned (.bool r) ∧ Below w.heap.size w w' := by
 have hu28 := Tryd.underlying28
 have HR0 := Aside0.mk hr0
 have HC0 := Aside0.mk hc0
 clear hr0 hc0
 have HR1 := Aside0.mk hr1
 have HC1 := Aside0.mk hc1
 clear hr1 hc1
 have HB := Aside0.mk (Below.refl w.heap.size w)
 have H : (if (l0.length : Int) = (l1.length : Int) then (laws_eqBatchS.l0 k l0 l1 0) else (some false)) = some r := h
 clear h
 by_cases c3 : (l0.length : Int) = (l1.length : Int)
 ·rw [if_pos c3] at H
  have c3b0 : ((l0.length : Int) == (l1.length : Int)) = true := beq_iff_eq.mpr c3
  have c3b1 : ((l0.length : Int) != (l1.length : Int)) = false := bne_eq_false_iff_eq.mpr c3
  have c3b2 : (l0.length == l1.length) = true := by first | simpa using c3 | (simp at c3 ⊢; omega)
  clear c3
  have H' := Aside0.mk H
  clear H
  go_enter Tryd.func20, Tryd.ntmps20
  go_wp2
  go_loopg [5] k (fun kq v5 w' => ∃ (x5_1 : Int), v5 = .int .i64 x5_1 ∧ Aside0 (laws_eqBatchS.l0 kq l0 l1 x5_1 = some r) ∧ Aside0 (kq ≤ k) ∧ Aside0 (Below w.heap.size w w'))
  case atStart => exact ⟨(0), tr, H', ⟨Nat.le_refl _⟩, ⟨zb⟩⟩
  case round =>
   clear H'
   try clear c1; try clear c3; try clear c3b0; try clear c3b1; try clear c3b2
   obtain ⟨x5_1, rfl, HA, HK1, HB⟩ := hrel
   cases gk with
   | zero => exact absurd HA.out (by simp [laws_eqBatchS.l0])
   | succ k1 =>
    have H := HA.out
    clear HA
    simp only [laws_eqBatchS.l0] at H
    by_cases c4 : x5_1 < (l0.length : Int)
    ·rw [if_pos c4] at H
     have c4b0 : decide (x5_1 < (l0.length : Int)) = true := decide_eq_true c4
     clear c4
     by_cases c5 : 0 ≤ x5_1
     ·rw [if_pos c5] at H
      have c5b0 : decide (0 ≤ x5_1) = true := decide_eq_true c5
      clear c5
      by_cases c6 : x5_1 < (l1.length : Int)
      ·rw [if_pos c6] at H
       have c6b0 : decide (x5_1 < (l1.length : Int)) = true := decide_eq_true c6
       clear c6
       replace H := tbe H
       obtain ⟨t525, A7, H⟩ := H
       by_cases c8 : t525 = true
       ·subst c8
        rw [if_pos rfl] at H
        have H' := Aside0.mk H
        clear H
        try go_wp2
        replace HB := Aside0.mk (below_drew1 HB.out)
        have p523 : 0 ≤ (x5_1 : Int) := td
        have q523 : x5_1 < (l0.length : Int) := td
        obtain ⟨ad523, A523_5, c523_5, e523, hx523_0, hx523_1, hx523_2, hx523_3, hx523_4, hx523_5, hl523_5, hi523_5⟩ := at_T28 HR0.out x5_1 p523 q523
        have hw523_5 := hx523_5
        have hw523_4 := hx523_4
        have hw523_3 := hx523_3
        have hw523_2 := hx523_2
        have hw523_1 := hx523_1
        have hw523_0 := hx523_0
        cases e523
        replace hx523_0 := tcl HB hx523_0
        replace hx523_1 := tcl HB hx523_1
        replace hx523_2 := tcl HB hx523_2
        replace hx523_3 := tcl HB hx523_3
        replace hx523_4 := tcl HB hx523_4
        replace hx523_5 := tcl HB hx523_5
        have HR523_5 := Aside0.mk hi523_5
        have HC523_5 := Aside0.mk hl523_5
        clear hi523_5 hl523_5
        replace p523 := eq_true p523
        replace q523 := eq_true q523
        have p524 : 0 ≤ (x5_1 : Int) := td
        have q524 : x5_1 < (l1.length : Int) := td
        obtain ⟨ad524, A524_5, c524_5, e524, hx524_0, hx524_1, hx524_2, hx524_3, hx524_4, hx524_5, hl524_5, hi524_5⟩ := at_T28 HR1.out x5_1 p524 q524
        have hw524_5 := hx524_5
        have hw524_4 := hx524_4
        have hw524_3 := hx524_3
        have hw524_2 := hx524_2
        have hw524_1 := hx524_1
        have hw524_0 := hx524_0
        cases e524
        replace hx524_0 := tcl HB hx524_0
        replace hx524_1 := tcl HB hx524_1
        replace hx524_2 := tcl HB hx524_2
        replace hx524_3 := tcl HB hx524_3
        replace hx524_4 := tcl HB hx524_4
        replace hx524_5 := tcl HB hx524_5
        have HR524_5 := Aside0.mk hi524_5
        have HC524_5 := Aside0.mk hl524_5
        clear hi524_5 hl524_5
        replace p524 := eq_true p524
        replace q524 := eq_true q524
        refine start_ (n := 10) (S := fun w' => w'.cell? (ad523.add ((x5_1).toNat * 6)) = some (.bool ((rd_T28 l0 x5_1).f0)) ∧ w'.cell? ⟨(ad523.add ((x5_1).toNat * 6)).block, (ad523.add ((x5_1).toNat * 6)).off + 1, none⟩ = some (.bool ((rd_T28 l0 x5_1).f1)) ∧ w'.cell? ⟨(ad523.add ((x5_1).toNat * 6)).block, (ad523.add ((x5_1).toNat * 6)).off + 2, none⟩ = some (.int .i64 ((rd_T28 l0 x5_1).f2)) ∧ w'.cell? ⟨(ad523.add ((x5_1).toNat * 6)).block, (ad523.add ((x5_1).toNat * 6)).off + 3, none⟩ = some (.int .i64 ((rd_T28 l0 x5_1).f3)) ∧ w'.cell? ⟨(ad523.add ((x5_1).toNat * 6)).block, (ad523.add ((x5_1).toNat * 6)).off + 4, none⟩ = some (.int .i64 ((rd_T28 l0 x5_1).f4)) ∧ w'.cell? ⟨(ad523.add ((x5_1).toNat * 6)).block, (ad523.add ((x5_1).toNat * 6)).off + 5, none⟩ = some (.slice A523_5 ((rd_T28 l0 x5_1).f5).length c523_5) ∧ w'.cell? (ad524.add ((x5_1).toNat * 6)) = some (.bool ((rd_T28 l1 x5_1).f0)) ∧ w'.cell? ⟨(ad524.add ((x5_1).toNat * 6)).block, (ad524.add ((x5_1).toNat * 6)).off + 1, none⟩ = some (.bool ((rd_T28 l1 x5_1).f1)) ∧ w'.cell? ⟨(ad524.add ((x5_1).toNat * 6)).block, (ad524.add ((x5_1).toNat * 6)).off + 2, none⟩ = some (.int .i64 ((rd_T28 l1 x5_1).f2)) ∧ w'.cell? ⟨(ad524.add ((x5_1).toNat * 6)).block, (ad524.add ((x5_1).toNat * 6)).off + 3, none⟩ = some (.int .i64 ((rd_T28 l1 x5_1).f3)) ∧ w'.cell? ⟨(ad524.add ((x5_1).toNat * 6)).block, (ad524.add ((x5_1).toNat * 6)).off + 4, none⟩ = some (.int .i64 ((rd_T28 l1 x5_1).f4)) ∧ w'.cell? ⟨(ad524.add ((x5_1).toNat * 6)).block, (ad524.add ((x5_1).toNat * 6)).off + 5, none⟩ = some (.slice A524_5 ((rd_T28 l1 x5_1).f5).length c524_5)) (ds := []) #[false, false, false, false, false, false, false, false, false, false] (by kernel_rfl) rfl rfl ⟨(tcl HB hw523_0), (tcl HB hw523_1), (tcl HB hw523_2), (tcl HB hw523_3), (tcl HB hw523_4), (tcl HB hw523_5), (tcl HB hw524_0), (tcl HB hw524_1), (tcl HB hw524_2), (tcl HB hw524_3), (tcl HB hw524_4), (tcl HB hw524_5)⟩ (fun hHeld => ?_); refine with_tabW laws_eqBatchS.tab6 laws_eqBatchS.bits6 (fun HT_ HW_ => ?_)
        generalize wr.drew = w9 at HB HR523_5 HR524_5 hx523_0 hx523_1 hx523_2 hx523_3 hx523_4 hx523_5 hx524_0 hx524_1 hx524_2 hx524_3 hx524_4 hx524_5 hHeld ⊢
        refine tpu 0 (some 17) #[true, false, false, false, false, false, false, false, false, false] ?_
        refine tpu 1 (some 18) #[true, true, false, false, false, false, false, false, false, false] ?_
        refine tpu 2 (some 19) #[true, true, true, false, false, false, false, false, false, false] ?_
        refine tpu 4 (some 21) #[true, true, true, false, true, false, false, false, false, false] ?_
        refine tpu 5 (some 22) #[true, true, true, false, true, true, false, false, false, false] ?_
        refine tpu 6 (some 23) #[true, true, true, false, true, true, true, false, false, false] ?_
        refine tta 3 (some 20) #[true, true, true, true, true, true, true, false, false, false] hHeld ?_ (hy := by rintro w' ⟨s0, s1, s2, s3, s4, s5, s6, s7, s8, s9, s10, s11⟩; go_simp; with_reducible rfl)
        refine tta 7 (some 24) #[true, true, true, true, true, true, true, true, false, false] hHeld ?_ (hy := by rintro w' ⟨s0, s1, s2, s3, s4, s5, s6, s7, s8, s9, s10, s11⟩; go_simp; with_reducible rfl)
        refine one_ (i := 8) (N := some 25) #[true, true, true, true, true, true, true, true, true, false] rfl rfl (one_of HT_.out (by kernel_rfl)) (by decide) (fun K hK => ?_)
        refine goes_ Tryd.func11 (by kernel_rfl) rfl #[.agg #[.bool ((rd_T28 l0 x5_1).f0), .bool ((rd_T28 l0 x5_1).f1), .int .i64 ((rd_T28 l0 x5_1).f2), .int .i64 ((rd_T28 l0 x5_1).f3), .int .i64 ((rd_T28 l0 x5_1).f4), .slice A523_5 ((rd_T28 l0 x5_1).f5).length c523_5], .agg #[.bool ((rd_T28 l1 x5_1).f0), .bool ((rd_T28 l1 x5_1).f1), .int .i64 ((rd_T28 l1 x5_1).f2), .int .i64 ((rd_T28 l1 x5_1).f3), .int .i64 ((rd_T28 l1 x5_1).f4), .slice A524_5 ((rd_T28 l1 x5_1).f5).length c524_5]] (by rfl) rfl rfl tq ?_
        with_reducible refine (laws_eqBatch.calls k1 ((rd_T28 l0 x5_1).f0) ((rd_T28 l0 x5_1).f1) ((rd_T28 l0 x5_1).f2) ((rd_T28 l0 x5_1).f3) ((rd_T28 l0 x5_1).f4) _ _ ((rd_T28 l0 x5_1).f5) ((rd_T28 l1 x5_1).f0) ((rd_T28 l1 x5_1).f1) ((rd_T28 l1 x5_1).f2) ((rd_T28 l1 x5_1).f3) ((rd_T28 l1 x5_1).f4) _ _ ((rd_T28 l1 x5_1).f5) true _ ?side1 ?side2 ?side3 ?side4 A7.out).mono ?_
        (case side1 => exact tC (Kd.C_below HR523_5.out HB.out))
        (case side2 => exact HC523_5.out)
        (case side3 => exact tC (Kd.C_below HR524_5.out HB.out))
        (case side4 => exact HC524_5.out)
        rintro e w10 ⟨rfl, hb⟩
        refine ⟨_, rfl, ?_⟩
        replace HB := tBs HB hb
        (try clear hb)
        (try clear hb2)
        (try clear hk)
        (try clear hi)
        refine hK.out _ _ ⟨(tcl HB hw523_0), (tcl HB hw523_1), (tcl HB hw523_2), (tcl HB hw523_3), (tcl HB hw523_4), (tcl HB hw523_5), (tcl HB hw524_0), (tcl HB hw524_1), (tcl HB hw524_2), (tcl HB hw524_3), (tcl HB hw524_4), (tcl HB hw524_5)⟩ (fun hHeld => ?_)
        clear hK K
        refine tnm (some 25) ?_
        refine tpu 9 (some 26) #[true, true, true, true, true, true, true, true, true, true] ?_
        refine done_ (done_of HT_.out (by kernel_rfl)) ?_
        try go_wp2
        go_roundg k1
        case measure => have := HK1.out; omega
        case rel => exact ⟨(wrap64 (x5_1 + 1)), tr, H', ⟨by have := HK1.out; omega⟩, ⟨zb⟩⟩
       ·replace c8 := Bool.eq_false_iff.mpr c8
        subst c8
        rw [if_neg (show ¬ (false = true) by decide)] at H
        obtain rfl := Option.some.inj H
        try go_wp2
        replace HB := Aside0.mk (below_drew1 HB.out)
        have p523 : 0 ≤ (x5_1 : Int) := td
        have q523 : x5_1 < (l0.length : Int) := td
        obtain ⟨ad523, A523_5, c523_5, e523, hx523_0, hx523_1, hx523_2, hx523_3, hx523_4, hx523_5, hl523_5, hi523_5⟩ := at_T28 HR0.out x5_1 p523 q523
        have hw523_5 := hx523_5
        have hw523_4 := hx523_4
        have hw523_3 := hx523_3
        have hw523_2 := hx523_2
        have hw523_1 := hx523_1
        have hw523_0 := hx523_0
        cases e523
        replace hx523_0 := tcl HB hx523_0
        replace hx523_1 := tcl HB hx523_1
        replace hx523_2 := tcl HB hx523_2
        replace hx523_3 := tcl HB hx523_3
        replace hx523_4 := tcl HB hx523_4
        replace hx523_5 := tcl HB hx523_5
        have HR523_5 := Aside0.mk hi523_5
        have HC523_5 := Aside0.mk hl523_5
        clear hi523_5 hl523_5
        replace p523 := eq_true p523
        replace q523 := eq_true q523
        have p524 : 0 ≤ (x5_1 : Int) := td
        have q524 : x5_1 < (l1.length : Int) := td
        obtain ⟨ad524, A524_5, c524_5, e524, hx524_0, hx524_1, hx524_2, hx524_3, hx524_4, hx524_5, hl524_5, hi524_5⟩ := at_T28 HR1.out x5_1 p524 q524
        have hw524_5 := hx524_5
        have hw524_4 := hx524_4
        have hw524_3 := hx524_3
        have hw524_2 := hx524_2
        have hw524_1 := hx524_1
        have hw524_0 := hx524_0
        cases e524
        replace hx524_0 := tcl HB hx524_0
        replace hx524_1 := tcl HB hx524_1
        replace hx524_2 := tcl HB hx524_2
        replace hx524_3 := tcl HB hx524_3
        replace hx524_4 := tcl HB hx524_4
        replace hx524_5 := tcl HB hx524_5
        have HR524_5 := Aside0.mk hi524_5
        have HC524_5 := Aside0.mk hl524_5
        clear hi524_5 hl524_5
        replace p524 := eq_true p524
        replace q524 := eq_true q524
        refine start_ (n := 10) (S := fun w' => w'.cell? (ad523.add ((x5_1).toNat * 6)) = some (.bool ((rd_T28 l0 x5_1).f0)) ∧ w'.cell? ⟨(ad523.add ((x5_1).toNat * 6)).block, (ad523.add ((x5_1).toNat * 6)).off + 1, none⟩ = some (.bool ((rd_T28 l0 x5_1).f1)) ∧ w'.cell? ⟨(ad523.add ((x5_1).toNat * 6)).block, (ad523.add ((x5_1).toNat * 6)).off + 2, none⟩ = some (.int .i64 ((rd_T28 l0 x5_1).f2)) ∧ w'.cell? ⟨(ad523.add ((x5_1).toNat * 6)).block, (ad523.add ((x5_1).toNat * 6)).off + 3, none⟩ = some (.int .i64 ((rd_T28 l0 x5_1).f3)) ∧ w'.cell? ⟨(ad523.add ((x5_1).toNat * 6)).block, (ad523.add ((x5_1).toNat * 6)).off + 4, none⟩ = some (.int .i64 ((rd_T28 l0 x5_1).f4)) ∧ w'.cell? ⟨(ad523.add ((x5_1).toNat * 6)).block, (ad523.add ((x5_1).toNat * 6)).off + 5, none⟩ = some (.slice A523_5 ((rd_T28 l0 x5_1).f5).length c523_5) ∧ w'.cell? (ad524.add ((x5_1).toNat * 6)) = some (.bool ((rd_T28 l1 x5_1).f0)) ∧ w'.cell? ⟨(ad524.add ((x5_1).toNat * 6)).block, (ad524.add ((x5_1).toNat * 6)).off + 1, none⟩ = some (.bool ((rd_T28 l1 x5_1).f1)) ∧ w'.cell? ⟨(ad524.add ((x5_1).toNat * 6)).block, (ad524.add ((x5_1).toNat * 6)).off + 2, none⟩ = some (.int .i64 ((rd_T28 l1 x5_1).f2)) ∧ w'.cell? ⟨(ad524.add ((x5_1).toNat * 6)).block, (ad524.add ((x5_1).toNat * 6)).off + 3, none⟩ = some (.int .i64 ((rd_T28 l1 x5_1).f3)) ∧ w'.cell? ⟨(ad524.add ((x5_1).toNat * 6)).block, (ad524.add ((x5_1).toNat * 6)).off + 4, none⟩ = some (.int .i64 ((rd_T28 l1 x5_1).f4)) ∧ w'.cell? ⟨(ad524.add ((x5_1).toNat * 6)).block, (ad524.add ((x5_1).toNat * 6)).off + 5, none⟩ = some (.slice A524_5 ((rd_T28 l1 x5_1).f5).length c524_5)) (ds := []) #[false, false, false, false, false, false, false, false, false, false] (by kernel_rfl) rfl rfl ⟨(tcl HB hw523_0), (tcl HB hw523_1), (tcl HB hw523_2), (tcl HB hw523_3), (tcl HB hw523_4), (tcl HB hw523_5), (tcl HB hw524_0), (tcl HB hw524_1), (tcl HB hw524_2), (tcl HB hw524_3), (tcl HB hw524_4), (tcl HB hw524_5)⟩ (fun hHeld => ?_); refine with_tabW laws_eqBatchS.tab6 laws_eqBatchS.bits6 (fun HT_ HW_ => ?_)
        generalize wr.drew = w11 at HB HR523_5 HR524_5 hx523_0 hx523_1 hx523_2 hx523_3 hx523_4 hx523_5 hx524_0 hx524_1 hx524_2 hx524_3 hx524_4 hx524_5 hHeld ⊢
        refine tpu 0 (some 17) #[true, false, false, false, false, false, false, false, false, false] ?_
        refine tpu 1 (some 18) #[true, true, false, false, false, false, false, false, false, false] ?_
        refine tpu 2 (some 19) #[true, true, true, false, false, false, false, false, false, false] ?_
        refine tpu 4 (some 21) #[true, true, true, false, true, false, false, false, false, false] ?_
        refine tpu 5 (some 22) #[true, true, true, false, true, true, false, false, false, false] ?_
        refine tpu 6 (some 23) #[true, true, true, false, true, true, true, false, false, false] ?_
        refine tta 3 (some 20) #[true, true, true, true, true, true, true, false, false, false] hHeld ?_ (hy := by rintro w' ⟨s0, s1, s2, s3, s4, s5, s6, s7, s8, s9, s10, s11⟩; go_simp; with_reducible rfl)
        refine tta 7 (some 24) #[true, true, true, true, true, true, true, true, false, false] hHeld ?_ (hy := by rintro w' ⟨s0, s1, s2, s3, s4, s5, s6, s7, s8, s9, s10, s11⟩; go_simp; with_reducible rfl)
        refine one_ (i := 8) (N := some 25) #[true, true, true, true, true, true, true, true, true, false] rfl rfl (one_of HT_.out (by kernel_rfl)) (by decide) (fun K hK => ?_)
        refine goes_ Tryd.func11 (by kernel_rfl) rfl #[.agg #[.bool ((rd_T28 l0 x5_1).f0), .bool ((rd_T28 l0 x5_1).f1), .int .i64 ((rd_T28 l0 x5_1).f2), .int .i64 ((rd_T28 l0 x5_1).f3), .int .i64 ((rd_T28 l0 x5_1).f4), .slice A523_5 ((rd_T28 l0 x5_1).f5).length c523_5], .agg #[.bool ((rd_T28 l1 x5_1).f0), .bool ((rd_T28 l1 x5_1).f1), .int .i64 ((rd_T28 l1 x5_1).f2), .int .i64 ((rd_T28 l1 x5_1).f3), .int .i64 ((rd_T28 l1 x5_1).f4), .slice A524_5 ((rd_T28 l1 x5_1).f5).length c524_5]] (by rfl) rfl rfl tq ?_
        with_reducible refine (laws_eqBatch.calls k1 ((rd_T28 l0 x5_1).f0) ((rd_T28 l0 x5_1).f1) ((rd_T28 l0 x5_1).f2) ((rd_T28 l0 x5_1).f3) ((rd_T28 l0 x5_1).f4) _ _ ((rd_T28 l0 x5_1).f5) ((rd_T28 l1 x5_1).f0) ((rd_T28 l1 x5_1).f1) ((rd_T28 l1 x5_1).f2) ((rd_T28 l1 x5_1).f3) ((rd_T28 l1 x5_1).f4) _ _ ((rd_T28 l1 x5_1).f5) false _ ?side1 ?side2 ?side3 ?side4 A7.out).mono ?_
        (case side1 => exact tC (Kd.C_below HR523_5.out HB.out))
        (case side2 => exact HC523_5.out)
        (case side3 => exact tC (Kd.C_below HR524_5.out HB.out))
        (case side4 => exact HC524_5.out)
        rintro e w12 ⟨rfl, hb⟩
        refine ⟨_, rfl, ?_⟩
        replace HB := tBs HB hb
        (try clear hb)
        (try clear hb2)
        (try clear hk)
        (try clear hi)
        refine hK.out _ _ ⟨(tcl HB hw523_0), (tcl HB hw523_1), (tcl HB hw523_2), (tcl HB hw523_3), (tcl HB hw523_4), (tcl HB hw523_5), (tcl HB hw524_0), (tcl HB hw524_1), (tcl HB hw524_2), (tcl HB hw524_3), (tcl HB hw524_4), (tcl HB hw524_5)⟩ (fun hHeld => ?_)
        clear hK K
        refine tnm (some 25) ?_
        refine tpu 9 (some 26) #[true, true, true, true, true, true, true, true, true, true] ?_
        refine done_ (done_of HT_.out (by kernel_rfl)) ?_
        try go_wp2
        go_ret
        exact ⟨by first | rfl | (simp [errW_none, errW_some] <;> rfl) | (simp [*, errW_none, errW_some] <;> rfl), zb⟩
      ·rw [if_neg c6] at H
       exact absurd H (by simp)
     ·rw [if_neg c5] at H
      exact absurd H (by simp)
    ·rw [if_neg c4] at H
     have c4b0 : decide (x5_1 < (l0.length : Int)) = false := decide_eq_false c4
     clear c4
     obtain rfl := Option.some.inj H
     go_wp2
     go_ret
     exact ⟨by first | rfl | (simp [errW_none, errW_some] <;> rfl) | (simp [*, errW_none, errW_some] <;> rfl), zb⟩
 ·rw [if_neg c3] at H
  have c3b0 : ((l0.length : Int) == (l1.length : Int)) = false := beq_eq_false_iff_ne.mpr c3
  have c3b1 : ((l0.length : Int) != (l1.length : Int)) = true := bne_iff_ne.mpr c3
  have c3b2 : (l0.length == l1.length) = false := by first | simpa using c3 | (simp at c3 ⊢; omega)
  obtain rfl := Option.some.inj H
  go_enter Tryd.func20, Tryd.ntmps20
  go_wp2
  go_ret
  exact ⟨by first | rfl | (simp [errW_none, errW_some] <;> rfl) | (simp [*, errW_none, errW_some] <;> rfl), zb⟩

end Go.Proofs.YtfjkpdhldeopaaaDoor.G

