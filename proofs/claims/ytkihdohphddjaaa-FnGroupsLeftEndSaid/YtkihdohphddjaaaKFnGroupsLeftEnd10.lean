/- A text of seat Ytkihdohphddjaaa: what the law FnGroupsLeftEnd needs of this repo's texts (by pack.py). Not trusted: Lean checks it. -/
import Derived.Test.YtkihdohphddjaaaKFnGroupsLeftEnd9
import Derived.Deep.Slices
import Derived.SizedLaws
import Derived.Laws.BitsLemmas
namespace Go.Proofs.Ytkihdohphddjaaa.G
open Go.RowKit Go.Proofs.YtkihdohphddjaaaW.PrintWords Go.Proofs.YtkihdohphddjaaaW.PrintLast Go.Proofs.YtkihdohphddjaaaW.PrintMore
attribute [local go_sem] max2_int min2_int max_two min_two max_three min_three max_four min_four   -- for this text's walks alone
set_option linter.unusedVariables false
set_option linter.unusedSimpArgs false

def spec_l14All.l0 : Nat → List (S75) → List (S78) → Int → Option ((List (S78)))
 | 0, _, _, _ => none
 | k + 1, x0, x3, x4 => if x4 < (x0.length : Int) then (if 0 ≤ x4 then (if x3.length + ((rd_T75 x0 x4).f5).length < 1759218604441 then (spec_l14All.l0 k x0 (x3 ++ ((rd_T75 x0 x4).f5)) (wrap64 (x4 + 1))) else (none)) else (none)) else (some x3)
def spec_l14All.f (k : Nat) (l0 : List (S75)) : Option ((List (S78))) := spec_l14All.l0 k l0 (([] : List (S78))) 0
set_option maxHeartbeats 8000000 in
set_option maxRecDepth 100000 in
theorem spec_l14All.calls (k : Nat) (P0_ : Nat → Prop) (A0 : Option Addr) (c0 : Nat) (l0 : List (S75)) (r : List (S78)) (w : World) (hs0 : Kd.V k75 75 w w.heap.size (fun k_ => P0_ k_) (.slice A0 l0.length c0) l0) (h : spec_l14All.f k l0 = some r) :
  Calls Try.prog 40 #[.slice A0 l0.length c0] w fun e w' => ∃ v0_ : Value, e = .returned (v0_) ∧ Kd.N k78 78 w' w.heap.size (fun k_ => (P0_ k_ ∨ w.heap.size ≤ k_)) v0_ r ∧ Below w.heap.size w w' := by
 have HO0 := Aside0.mk (show Kd.V k75 75 w w.heap.size (fun k_ => (P0_ k_ ∨ w.heap.size ≤ k_)) (.slice A0 l0.length c0) l0 from Kd.V_mono hs0 (fun k_ hk => .inl hk))
 have HB := Aside0.mk (Below.refl w.heap.size w)
 have H : (spec_l14All.l0 k l0 (([] : List (S78))) 0) = some r := h
 clear h
 obtain ⟨y542, hy542⟩ : ∃ y_ : List (S78), y_ = (([] : List (S78))) := ⟨_, rfl⟩
 replace H : (spec_l14All.l0 k l0 y542 0) = some r := by first | (rw [hy542]; with_reducible exact H) | (have H2_ := (Option.bind_some _ _).symm.trans H; rw [hy542]; with_reducible exact H2_) | (have H2_ := (Option.bind_some _ _).symm.trans H; with_reducible exact H2_) | with_reducible exact H | (rw [hy542]; exact H) | exact H
 have Ny542 := Aside0.mk hy542
 clear hy542
 have H' := Aside0.mk H
 clear H
 go_enter Try.func40, Try.ntmps40
 go_wp2_with (first | ((with_reducible refine gate_dst (N := 5) rfl ?_); refine Kd.N_lit k78 _ 78 ?hg (N' := 5) ?hd (xs := ([] : List (S78))) (inner := []) (ok := (fun k_ => (P0_ k_ ∨ w.heap.size ≤ k_))) (okp := (fun k_ => (P0_ k_ ∨ w.heap.size ≤ k_))) ?hr ?hp (fun _ hk => hk) ((show ∀ k_, w.heap.size ≤ k_ → (fun k_ => (P0_ k_ ∨ w.heap.size ≤ k_)) k_ from fun k_ hk => (.inr (Nat.le_trans (below_size zb) hk))) _ (Nat.le_refl _)) (Below.refl _ _) (Nat.le_refl _) (by simp) ?_; (case hd => rfl); (case hg => rfl); (case hr => first | (go_simp; done) | (go_simp; rfl)); (case hp => exact (Reps.none _ _)); intro v543 w2 ho3 hb hg_ hnew_; clear hg_ hnew_; (first | rw [← Ny542.out] at ho3 | (simp only [Int.reduceToNat] at ho3; rw [← Ny542.out] at ho3)); replace HO0 := tVe HO0 ho3 hb; have HO544 := tNl ho3 HB; replace HB := tBs HB hb; clear hb ho3))
 go_loopg [3, 4] k (fun kq v3 v4 w' => ∃ (x3_1 : List (S78)) (x4_1 : Int), v4 = .int .i64 x4_1 ∧ Aside0 (spec_l14All.l0 kq l0 x3_1 x4_1 = some r) ∧ Aside0 (kq ≤ k) ∧ Aside0 (Kd.V k75 75 w' w.heap.size (fun k_ => (P0_ k_ ∨ w.heap.size ≤ k_) ∧ some k_ ≠ (v3 : Value).ownBlock) (.slice A0 l0.length c0) l0) ∧ Aside0 (Kd.N k78 78 w' w.heap.size (fun k_ => (P0_ k_ ∨ w.heap.size ≤ k_)) v3 x3_1) ∧ Aside0 (Below w.heap.size w w'))
 case atStart => exact ⟨(y542), (0), tr, H', ⟨Nat.le_refl _⟩, ⟨tV HO0.out⟩, ⟨tN HO544.out⟩, ⟨zb⟩⟩
 case round =>
  clear H'
  obtain ⟨x3_1, x4_1, rfl, HA, HK1, HO_0, HO_3, HB⟩ := hrel
  cases gk with
  | zero => exact absurd HA.out (by simp [spec_l14All.l0])
  | succ k1 =>
   have H := HA.out
   clear HA
   simp only [spec_l14All.l0] at H
   by_cases c4 : x4_1 < (l0.length : Int)
   ·rw [if_pos c4] at H
    have c4b0 : decide (x4_1 < (l0.length : Int)) = true := decide_eq_true c4
    clear c4
    by_cases c5 : 0 ≤ x4_1
    ·rw [if_pos c5] at H
     have c5b0 : decide (0 ≤ x4_1) = true := decide_eq_true c5
     clear c5
     by_cases c6 : x3_1.length + ((rd_T75 l0 x4_1).f5).length < 1759218604441
     ·rw [if_pos c6] at H
      have LMc6 := Aside0.mk c6
      clear c6
      obtain ⟨y546, hy546⟩ : ∃ y_ : List (S78), y_ = (x3_1 ++ ((rd_T75 l0 x4_1).f5)) := ⟨_, rfl⟩
      replace H : (spec_l14All.l0 k1 l0 y546 (wrap64 (x4_1 + 1))) = some r := by first | (rw [hy546]; with_reducible exact H) | (have H2_ := (Option.bind_some _ _).symm.trans H; rw [hy546]; with_reducible exact H2_) | (have H2_ := (Option.bind_some _ _).symm.trans H; with_reducible exact H2_) | with_reducible exact H | (rw [hy546]; exact H) | exact H
      have Ny546 := Aside0.mk hy546
      clear hy546
      have H' := Aside0.mk H
      clear H
      have p545 : 0 ≤ (x4_1 : Int) := td
      have q545 : x4_1 < (l0.length : Int) := td
      obtain ⟨ad545, A545_5, c545_5, e545, hx545_0, hx545_1, hx545_2, hx545_3, hx545_4, hx545_5, hl545_5, hi545_5⟩ := at_T75 (Kd.V_reads' HO_0.out).2.2 x4_1 p545 q545
      cases e545
      obtain ⟨ce545, hce545, hMe545, hcc545⟩ := Kd.V_get HO_0.out z75 x4_1 p545 (by first | exact q545 | exact td | (have e_ := (Kd.V_reads' HO_0.out).1; omega))
      obtain ⟨ua545_5, uc545_5, rfl, ul545_5, ge545_5⟩ := k75_openF hMe545
      have hv545_5 := hcc545 5 _ rfl
      rw [add_field _ _ 5 (by omega)] at hv545_5
      replace hv545_5 := Option.some.inj (hv545_5.symm.trans hx545_5)
      injection hv545_5 with hva_ hvn_ hvc_
      rw [hva_] at ge545_5
      rw [hvc_] at ul545_5
      have HL545_5 := Aside0.mk (show Kd.V k78 78 _ w.heap.size _ _ ((rd_T75 l0 x4_1).f5) from Kd.V_mk ul545_5 ge545_5)
      clear hva_ hvn_ hvc_ ge545_5 ul545_5
      clear hcc545 hce545
      have HR545_5 := Aside0.mk hi545_5
      have HC545_5 := Aside0.mk hl545_5
      clear hi545_5 hl545_5
      replace p545 := eq_true p545
      replace q545 := eq_true q545
      go_wp2_with (first | ((with_reducible refine gate_builtin (b := .append) (xs := #[.tmp 12, .tmp 17]) rfl ?_); at_builtin; refine Kd.N_append_rows k78 (w0 := w) w.heap.size rfl (.tmp 12) (.tmp 17) 46 78 (.agg #[(.int .i64 0), (.int .i64 0), (.bool false), (.slice none 0 0), (.bool false), (.slice none 0 0)]) 80 rfl Try.underlying46 info78 rfl (by decide) (by omega) u3 x3_1 ((rd_T75 l0 x4_1).f5) _ _ _ (fun k_ => (P0_ k_ ∨ w.heap.size ≤ k_)) (fun k_ => ((fun k_ => (P0_ k_ ∨ w.heap.size ≤ k_))) k_ ∧ some k_ ≠ (u3 : Value).ownBlock) rfl rfl ?aO ?aR (fun _ hk => hk) ?aF ?aB ?aS ?aL ?_; (case aR => exact (by skip; exact Kd.V_F (Kd.V_mono (ok' := (fun k_ => ((fun k_ => (P0_ k_ ∨ w.heap.size ≤ k_))) k_ ∧ some k_ ≠ (u3 : Value).ownBlock)) (HL545_5.out) (fun k_ hk => ⟨hk.1, hk.2⟩)))); (case aB => exact zb); (case aF => exact (fun k_ hk => (.inr (Nat.le_trans (below_size zb) hk)))); (case aO => exact (tN HO_3.out)); (case aS => exact (below_size zb)); (case aL => have := LMc6.out; omega); intro v547 w7 ho hb hg hat; rw [← Ny546.out] at ho; replace HO_0 := Aside0.mk (Kd.V_afterv (ok := (fun k_ => (P0_ k_ ∨ w.heap.size ≤ k_))) (tV HO_0.out) hg hat); replace HL545_5 := Aside0.mk (Kd.V_afterv (ok := (fun k_ => (P0_ k_ ∨ w.heap.size ≤ k_))) (tV HL545_5.out) hg hat); replace HB := Aside0.mk (hb); have HO548 := Aside0.mk (ho); clear HO_3; clear ho hb hg hat))
      go_roundg k1
      case measure => have := HK1.out; omega
      case rel => exact ⟨(y546), (wrap64 (x4_1 + 1)), tr, H', ⟨by have := HK1.out; omega⟩, ⟨tV HO_0.out⟩, ⟨tN HO548.out⟩, ⟨zb⟩⟩
     ·rw [if_neg c6] at H
      exact absurd H (by simp)
    ·rw [if_neg c5] at H
     exact absurd H (by simp)
   ·rw [if_neg c4] at H
    have c4b0 : decide (x4_1 < (l0.length : Int)) = false := decide_eq_false c4
    clear c4
    obtain rfl := Option.some.inj H
    go_wp2
    go_ret
    exact ⟨_, by first | rfl | (simp [errW_none, errW_some] <;> rfl) | (simp [*, errW_none, errW_some] <;> rfl), tN HO_3.out, zb⟩

mutual
def spec_GroupsLeft.j0 : Nat → List (S25) → ByteArray → List (S75) → Bool → Option (Int)
 | 0, _, _, _, _ => none
 | k + 1, x0, x1, x2, x18 => if x18 = true then (some (-1)) else ((spec_l14All.f k x2).bind fun t551 => (spec_GroupsLeft.l0 k x0 x1 t551 0))
def spec_GroupsLeft.l0 : Nat → List (S25) → ByteArray → List (S78) → Int → Option (Int)
 | 0, _, _, _, _ => none
 | k + 1, x0, x1, x7, x8 => if x8 < (x0.length : Int) then (if 0 ≤ x8 then (if ((rd_T25 x0 x8).f0).toList = x1.toList then (spec_GroupsLeft.l1 k x0 x7 x8 0 0) else (spec_GroupsLeft.l0 k x0 x1 x7 (wrap64 (x8 + 1)))) else (none)) else (some (-1))
def spec_GroupsLeft.l1 : Nat → List (S25) → List (S78) → Int → Int → Int → Option (Int)
 | 0, _, _, _, _, _ => none
 | k + 1, x0, x7, x8, x9, x10 => if x10 < (x7.length : Int) then (if 0 ≤ x10 then (if 0 ≤ x8 then (if x8 < (x0.length : Int) then (if ((rd_T78 x7 x10).f0) ≥ ((rd_T25 x0 x8).f1) then (spec_GroupsLeft.l1 k x0 x7 x8 (wrap64 (x9 + 1)) (wrap64 (x10 + 1))) else (spec_GroupsLeft.l1 k x0 x7 x8 x9 (wrap64 (x10 + 1)))) else (none)) else (none)) else (none)) else (some x9)
end
def spec_GroupsLeft.f (k : Nat) (l0 : List (S25)) (a1 : ByteArray) (l2 : List (S75)) : Option (Int) := (spec_GroupsValid.f k l0).bind fun t549 => (if t549 = true then ((spec_LogValid.f k l2).bind fun t550 => (spec_GroupsLeft.j0 k l0 a1 l2 (!t550))) else (spec_GroupsLeft.j0 k l0 a1 l2 true))
set_option maxHeartbeats 8000000 in
set_option maxRecDepth 100000 in
theorem spec_GroupsLeft.calls (k : Nat) (A0 : Option Addr) (c0 : Nat) (l0 : List (S25)) (a1 : ByteArray) (A2 : Option Addr) (c2 : Nat) (l2 : List (S75)) (r : Int) (w : World) (hr0 : Kd.C k25 w A0 l0.length l0) (hc0 : l0.length ≤ c0) (hr2 : Kd.C k75 w A2 l2.length l2) (hc2 : l2.length ≤ c2) (h : spec_GroupsLeft.f k l0 a1 l2 = some r) :
  Calls Try.prog 21 #[.slice A0 l0.length c0, .string a1, .slice A2 l2.length c2] w fun e w' => e = .returned (.int .i64 r) ∧ Below w.heap.size w w' := by
 have HR0 := Aside0.mk hr0
 have HC0 := Aside0.mk hc0
 clear hr0 hc0
 have HR2 := Aside0.mk hr2
 have HC2 := Aside0.mk hc2
 clear hr2 hc2
 have HB := Aside0.mk (Below.refl w.heap.size w)
 have H : ((spec_GroupsValid.f k l0).bind fun t549 => (if t549 = true then ((spec_LogValid.f k l2).bind fun t550 => (spec_GroupsLeft.j0 k l0 a1 l2 (!t550))) else (spec_GroupsLeft.j0 k l0 a1 l2 true))) = some r := h
 clear h
 have HC4 := Aside0.mk H
 clear H
 go_enter Try.func21, Try.ntmps21
 go_upto_region 1 with (fail)
 repeat (go_quiet (fail); go_upto_region 1 with (fail))
 go_cut [18] (fun v18 wc => ∃ (kq : Nat) (x18_3 : Bool), v18 = .bool x18_3 ∧ Aside0 (spec_GroupsLeft.j0 kq l0 a1 l2 x18_3 = some r) ∧ Aside0 (kq ≤ k) ∧ Aside0 (Below w.heap.size w wc))
 case first =>
  have H := HC4.out
  clear HC4
  replace H := tbe H
  obtain ⟨t549, A5, H⟩ := H
  by_cases c6 : t549 = true
  ·subst c6
   rw [if_pos rfl] at H
   replace H := tbe H
   obtain ⟨t550, A7, H⟩ := H
   have H' := Aside0.mk H
   clear H
   go_wp2_with (first | (go_at_call 32; (with_reducible refine (spec_GroupsValid.calls k _ _ l0 true _ ?side1 ?side2 A5.out).mono ?_); (case side1 => exact tC (Kd.C_below HR0.out HB.out)); (case side2 => exact HC0.out); rintro e w8 ⟨rfl, hb⟩; replace HB := tBs HB hb; (try clear hb); (try clear hb2); (try clear hk); (try clear hi)) | (go_at_call 39; (with_reducible refine (spec_LogValid.calls k _ _ l2 t550 _ ?side1 ?side2 A7.out).mono ?_); (case side1 => exact tC (Kd.C_below HR2.out HB.out)); (case side2 => exact HC2.out); rintro e w9 ⟨rfl, hb⟩; replace HB := tBs HB hb; (try clear hb); (try clear hb2); (try clear hk); (try clear hi)))
   repeat (go_quiet (first | (go_at_call 32; (with_reducible refine (spec_GroupsValid.calls k _ _ l0 true _ ?side1 ?side2 A5.out).mono ?_); (case side1 => exact tC (Kd.C_below HR0.out HB.out)); (case side2 => exact HC0.out); rintro e w8 ⟨rfl, hb⟩; replace HB := tBs HB hb; (try clear hb); (try clear hb2); (try clear hk); (try clear hi)) | (go_at_call 39; (with_reducible refine (spec_LogValid.calls k _ _ l2 t550 _ ?side1 ?side2 A7.out).mono ?_); (case side1 => exact tC (Kd.C_below HR2.out HB.out)); (case side2 => exact HC2.out); rintro e w9 ⟨rfl, hb⟩; replace HB := tBs HB hb; (try clear hb); (try clear hb2); (try clear hk); (try clear hi))); try go_wp2_with (first | (go_at_call 32; (with_reducible refine (spec_GroupsValid.calls k _ _ l0 true _ ?side1 ?side2 A5.out).mono ?_); (case side1 => exact tC (Kd.C_below HR0.out HB.out)); (case side2 => exact HC0.out); rintro e w8 ⟨rfl, hb⟩; replace HB := tBs HB hb; (try clear hb); (try clear hb2); (try clear hk); (try clear hi)) | (go_at_call 39; (with_reducible refine (spec_LogValid.calls k _ _ l2 t550 _ ?side1 ?side2 A7.out).mono ?_); (case side1 => exact tC (Kd.C_below HR2.out HB.out)); (case side2 => exact HC2.out); rintro e w9 ⟨rfl, hb⟩; replace HB := tBs HB hb; (try clear hb); (try clear hb2); (try clear hk); (try clear hi))))
   go_meet
   case rel => exact ⟨_, (!t550), tr, H', ⟨by first | omega | exact Nat.le_refl _⟩, ⟨zb⟩⟩
  ·replace c6 := Bool.eq_false_iff.mpr c6
   subst c6
   rw [if_neg (show ¬ (false = true) by decide)] at H
   have H' := Aside0.mk H
   clear H
   go_wp2_with (first | (go_at_call 32; (with_reducible refine (spec_GroupsValid.calls k _ _ l0 false _ ?side1 ?side2 A5.out).mono ?_); (case side1 => exact tC (Kd.C_below HR0.out HB.out)); (case side2 => exact HC0.out); rintro e w10 ⟨rfl, hb⟩; replace HB := tBs HB hb; (try clear hb); (try clear hb2); (try clear hk); (try clear hi)))
   repeat (go_quiet (first | (go_at_call 32; (with_reducible refine (spec_GroupsValid.calls k _ _ l0 false _ ?side1 ?side2 A5.out).mono ?_); (case side1 => exact tC (Kd.C_below HR0.out HB.out)); (case side2 => exact HC0.out); rintro e w10 ⟨rfl, hb⟩; replace HB := tBs HB hb; (try clear hb); (try clear hb2); (try clear hk); (try clear hi))); try go_wp2_with (first | (go_at_call 32; (with_reducible refine (spec_GroupsValid.calls k _ _ l0 false _ ?side1 ?side2 A5.out).mono ?_); (case side1 => exact tC (Kd.C_below HR0.out HB.out)); (case side2 => exact HC0.out); rintro e w10 ⟨rfl, hb⟩; replace HB := tBs HB hb; (try clear hb); (try clear hb2); (try clear hk); (try clear hi))))
   go_meet
   case rel => exact ⟨_, (true), tr, H', ⟨by first | omega | exact Nat.le_refl _⟩, ⟨zb⟩⟩
 case rest =>
  clear HC4
  try clear c2
  obtain ⟨kq, x18_3, rfl, HA, HJ3, HB⟩ := hcut
  cases kq with
  | zero => exact absurd HA.out (by simp [spec_GroupsLeft.j0])
  | succ kj3 =>
   have H := HA.out
   clear HA
   simp only [spec_GroupsLeft.j0] at H
   by_cases c11 : x18_3 = true
   ·subst c11
    rw [if_pos rfl] at H
    obtain rfl := Option.some.inj H
    go_wp2
    repeat (go_quiet (fail); try go_wp2)
    go_ret
    exact ⟨by first | rfl | (simp [errW_none, errW_some] <;> rfl) | (simp [*, errW_none, errW_some] <;> rfl), zb⟩
   ·replace c11 := Bool.eq_false_iff.mpr c11
    subst c11
    rw [if_neg (show ¬ (false = true) by decide)] at H
    replace H := tbe H
    obtain ⟨t551, A12, H⟩ := H
    have H' := Aside0.mk H
    clear H
    go_wp2_with (first | (go_at_call 40; (with_reducible refine (spec_l14All.calls kj3 (fun k_ => k_ < w.heap.size) _ _ l2 t551 _ ?side1 A12.out).mono ?_); (case side1 => exact Kd.V_mk HC2.out (Kd.F_below (Kd.C_F k75_heap HR2.out) zb)); rintro e w13 ⟨v552, rfl, ho0, hb⟩; have u_v552 := tsv Try.prog v552 ho0; have HO553 := Aside0.mk (Kd.N_lower (Kd.N_mono (ok' := fun k_ => True) ho0 (fun k_ hk_ => trivial)) (below_size zb)); replace HB := tBs HB hb; (try clear hb); (try clear hb2); (try clear hk); (try clear hi); (try clear ho0)))
    repeat (go_quiet (first | (go_at_call 40; (with_reducible refine (spec_l14All.calls kj3 (fun k_ => k_ < w.heap.size) _ _ l2 t551 _ ?side1 A12.out).mono ?_); (case side1 => exact Kd.V_mk HC2.out (Kd.F_below (Kd.C_F k75_heap HR2.out) zb)); rintro e w13 ⟨v552, rfl, ho0, hb⟩; have u_v552 := tsv Try.prog v552 ho0; have HO553 := Aside0.mk (Kd.N_lower (Kd.N_mono (ok' := fun k_ => True) ho0 (fun k_ hk_ => trivial)) (below_size zb)); replace HB := tBs HB hb; (try clear hb); (try clear hb2); (try clear hk); (try clear hi); (try clear ho0))); try go_wp2_with (first | (go_at_call 40; (with_reducible refine (spec_l14All.calls kj3 (fun k_ => k_ < w.heap.size) _ _ l2 t551 _ ?side1 A12.out).mono ?_); (case side1 => exact Kd.V_mk HC2.out (Kd.F_below (Kd.C_F k75_heap HR2.out) zb)); rintro e w13 ⟨v552, rfl, ho0, hb⟩; have u_v552 := tsv Try.prog v552 ho0; have HO553 := Aside0.mk (Kd.N_lower (Kd.N_mono (ok' := fun k_ => True) ho0 (fun k_ hk_ => trivial)) (below_size zb)); replace HB := tBs HB hb; (try clear hb); (try clear hb2); (try clear hk); (try clear hi); (try clear ho0))))
    go_loopg [8] kj3 (fun kq v8 w' => ∃ (x8_2 : Int), v8 = .int .i64 x8_2 ∧ Aside0 (spec_GroupsLeft.l0 kq l0 a1 t551 x8_2 = some r) ∧ Aside0 (kq ≤ kj3) ∧ Aside0 (Kd.N k78 78 w' w.heap.size (fun _ => True) v552 t551) ∧ Aside0 (Below w.heap.size w w'))
    case atStart => exact ⟨(0), tr, H', ⟨Nat.le_refl _⟩, ⟨tN HO553.out⟩, ⟨zb⟩⟩
    case round =>
     clear H'
     try clear c2; try clear c11
     obtain ⟨x8_2, rfl, HA, HK2, HO_7, HB⟩ := hrel
     cases gk with
     | zero => exact absurd HA.out (by simp [spec_GroupsLeft.l0])
     | succ k2 =>
      have H := HA.out
      clear HA
      simp only [spec_GroupsLeft.l0] at H
      by_cases c14 : x8_2 < (l0.length : Int)
      ·rw [if_pos c14] at H
       have c14b0 : decide (x8_2 < (l0.length : Int)) = true := decide_eq_true c14
       clear c14
       by_cases c15 : 0 ≤ x8_2
       ·rw [if_pos c15] at H
        have c15b0 : decide (0 ≤ x8_2) = true := decide_eq_true c15
        clear c15
        by_cases c16 : ((rd_T25 l0 x8_2).f0).toList = a1.toList
        ·rw [if_pos c16] at H
         have c16b0 : (((rd_T25 l0 x8_2).f0).toList == a1.toList) = true := beq_iff_eq.mpr c16
         have c16b1 : (((rd_T25 l0 x8_2).f0).toList != a1.toList) = false := bne_eq_false_iff_eq.mpr c16
         clear c16
         have H' := Aside0.mk H
         clear H
         have p554 : 0 ≤ (x8_2 : Int) := td
         have q554 : x8_2 < (l0.length : Int) := td
         obtain ⟨ad554, e554, hx554_0, hx554_1⟩ := at_T25 HR0.out x8_2 p554 q554
         cases e554
         replace hx554_0 := tcl HB hx554_0
         replace hx554_1 := tcl HB hx554_1
         replace p554 := eq_true p554
         replace q554 := eq_true q554
         go_wp2
         repeat (go_quiet (fail); try go_wp2)
         go_loopg [9, 10] k2 (fun kq v9 v10 w' => ∃ (x9_3 : Int) (x10_3 : Int), v9 = .int .i64 x9_3 ∧ v10 = .int .i64 x10_3 ∧ Aside0 (spec_GroupsLeft.l1 kq l0 t551 x8_2 x9_3 x10_3 = some r) ∧ Aside0 (kq ≤ k2) ∧ Aside0 (Kd.N k78 78 w' w.heap.size (fun _ => True) v552 t551) ∧ Aside0 (Below w.heap.size w w'))
         case atStart => exact ⟨(0), (0), tr, tr, H', ⟨Nat.le_refl _⟩, ⟨tN HO_7.out⟩, ⟨zb⟩⟩
         case round =>
          clear H'
          try clear c2; try clear c11; try clear c14; try clear c14b0; try clear c15; try clear c15b0; try clear c16; try clear c16b0; try clear c16b1; try clear hx554_0; try clear hx554_1; try clear p554; try clear q554
          obtain ⟨x9_3, x10_3, rfl, rfl, HA, HK3, HO_7, HB⟩ := hrel
          cases gk with
          | zero => exact absurd HA.out (by simp [spec_GroupsLeft.l1])
          | succ k3 =>
           have H := HA.out
           clear HA
           simp only [spec_GroupsLeft.l1] at H
           by_cases c17 : x10_3 < (t551.length : Int)
           ·rw [if_pos c17] at H
            have c17b0 : decide (x10_3 < (t551.length : Int)) = true := decide_eq_true c17
            clear c17
            by_cases c18 : 0 ≤ x10_3
            ·rw [if_pos c18] at H
             have c18b0 : decide (0 ≤ x10_3) = true := decide_eq_true c18
             clear c18
             by_cases c19 : 0 ≤ x8_2
             ·rw [if_pos c19] at H
              have c19b0 : decide (0 ≤ x8_2) = true := decide_eq_true c19
              clear c19
              by_cases c20 : x8_2 < (l0.length : Int)
              ·rw [if_pos c20] at H
               have c20b0 : decide (x8_2 < (l0.length : Int)) = true := decide_eq_true c20
               clear c20
               by_cases c21 : ((rd_T78 t551 x10_3).f0) ≥ ((rd_T25 l0 x8_2).f1)
               ·rw [if_pos c21] at H
                have c21b0 : decide (((rd_T25 l0 x8_2).f1) ≤ ((rd_T78 t551 x10_3).f0)) = true := decide_eq_true c21
                clear c21
                have H' := Aside0.mk H
                clear H
                obtain ⟨Ao22, co22, eo22⟩ := Kd.N_slice HO_7.out
                subst eo22
                have p555 : 0 ≤ (x10_3 : Int) := td
                have q555 : x10_3 < (t551.length : Int) := td
                obtain ⟨ad555, A555_3, c555_3, A555_5, c555_5, e555, hx555_0, hx555_1, hx555_2, hx555_3, hx555_4, hx555_5, hl555_3, hi555_3, hl555_5, hi555_5⟩ := at_T78 (Kd.N_reads' HO_7.out).2.2 x10_3 p555 q555
                cases e555
                obtain ⟨ce555, hce555, hMe555, hcc555⟩ := Kd.N_get HO_7.out z78 x10_3 p555 (by first | exact q555 | exact td | (have e_ := (Kd.N_reads' HO_7.out).1; omega))
                obtain ⟨ua555_3, uc555_3, ua555_5, uc555_5, rfl, ul555_3, ge555_3, ul555_5, ge555_5⟩ := k78_openF hMe555
                have hv555_3 := hcc555 3 _ rfl
                rw [add_field _ _ 3 (by omega)] at hv555_3
                replace hv555_3 := Option.some.inj (hv555_3.symm.trans hx555_3)
                injection hv555_3 with hva_ hvn_ hvc_
                rw [hva_] at ge555_3
                rw [hvc_] at ul555_3
                have HL555_3 := Aside0.mk (show Kd.V (Kd.int .i64) 3 _ w.heap.size _ _ ((rd_T78 t551 x10_3).f3) from Kd.V_mk ul555_3 ge555_3)
                clear hva_ hvn_ hvc_ ge555_3 ul555_3
                have hv555_5 := hcc555 5 _ rfl
                rw [add_field _ _ 5 (by omega)] at hv555_5
                replace hv555_5 := Option.some.inj (hv555_5.symm.trans hx555_5)
                injection hv555_5 with hva_ hvn_ hvc_
                rw [hva_] at ge555_5
                rw [hvc_] at ul555_5
                have HL555_5 := Aside0.mk (show Kd.V (Kd.int .i64) 3 _ w.heap.size _ _ ((rd_T78 t551 x10_3).f5) from Kd.V_mk ul555_5 ge555_5)
                clear hva_ hvn_ hvc_ ge555_5 ul555_5
                clear hcc555 hce555
                have HR555_3 := Aside0.mk hi555_3
                have HC555_3 := Aside0.mk hl555_3
                clear hi555_3 hl555_3
                have HR555_5 := Aside0.mk hi555_5
                have HC555_5 := Aside0.mk hl555_5
                clear hi555_5 hl555_5
                replace p555 := eq_true p555
                replace q555 := eq_true q555
                have p556 : 0 ≤ (x8_2 : Int) := td
                have q556 : x8_2 < (l0.length : Int) := td
                obtain ⟨ad556, e556, hx556_0, hx556_1⟩ := at_T25 HR0.out x8_2 p556 q556
                obtain rfl : ad554 = ad556 := (by injection e556)
                replace hx556_0 := tcl HB hx556_0
                replace hx556_1 := tcl HB hx556_1
                replace p556 := eq_true p556
                replace q556 := eq_true q556
                go_wp2
                repeat (go_quiet (fail); try go_wp2)
                go_roundg k3
                case measure => have := HJ3.out; have := HK2.out; have := HK3.out; omega
                case rel => exact ⟨(wrap64 (x9_3 + 1)), (wrap64 (x10_3 + 1)), tr, tr, H', ⟨by have := HJ3.out; have := HK2.out; have := HK3.out; omega⟩, ⟨tN HO_7.out⟩, ⟨zb⟩⟩
               ·rw [if_neg c21] at H
                have c21b0 : decide (((rd_T25 l0 x8_2).f1) ≤ ((rd_T78 t551 x10_3).f0)) = false := decide_eq_false c21
                clear c21
                have H' := Aside0.mk H
                clear H
                obtain ⟨Ao23, co23, eo23⟩ := Kd.N_slice HO_7.out
                subst eo23
                have p555 : 0 ≤ (x10_3 : Int) := td
                have q555 : x10_3 < (t551.length : Int) := td
                obtain ⟨ad555, A555_3, c555_3, A555_5, c555_5, e555, hx555_0, hx555_1, hx555_2, hx555_3, hx555_4, hx555_5, hl555_3, hi555_3, hl555_5, hi555_5⟩ := at_T78 (Kd.N_reads' HO_7.out).2.2 x10_3 p555 q555
                cases e555
                obtain ⟨ce555, hce555, hMe555, hcc555⟩ := Kd.N_get HO_7.out z78 x10_3 p555 (by first | exact q555 | exact td | (have e_ := (Kd.N_reads' HO_7.out).1; omega))
                obtain ⟨ua555_3, uc555_3, ua555_5, uc555_5, rfl, ul555_3, ge555_3, ul555_5, ge555_5⟩ := k78_openF hMe555
                have hv555_3 := hcc555 3 _ rfl
                rw [add_field _ _ 3 (by omega)] at hv555_3
                replace hv555_3 := Option.some.inj (hv555_3.symm.trans hx555_3)
                injection hv555_3 with hva_ hvn_ hvc_
                rw [hva_] at ge555_3
                rw [hvc_] at ul555_3
                have HL555_3 := Aside0.mk (show Kd.V (Kd.int .i64) 3 _ w.heap.size _ _ ((rd_T78 t551 x10_3).f3) from Kd.V_mk ul555_3 ge555_3)
                clear hva_ hvn_ hvc_ ge555_3 ul555_3
                have hv555_5 := hcc555 5 _ rfl
                rw [add_field _ _ 5 (by omega)] at hv555_5
                replace hv555_5 := Option.some.inj (hv555_5.symm.trans hx555_5)
                injection hv555_5 with hva_ hvn_ hvc_
                rw [hva_] at ge555_5
                rw [hvc_] at ul555_5
                have HL555_5 := Aside0.mk (show Kd.V (Kd.int .i64) 3 _ w.heap.size _ _ ((rd_T78 t551 x10_3).f5) from Kd.V_mk ul555_5 ge555_5)
                clear hva_ hvn_ hvc_ ge555_5 ul555_5
                clear hcc555 hce555
                have HR555_3 := Aside0.mk hi555_3
                have HC555_3 := Aside0.mk hl555_3
                clear hi555_3 hl555_3
                have HR555_5 := Aside0.mk hi555_5
                have HC555_5 := Aside0.mk hl555_5
                clear hi555_5 hl555_5
                replace p555 := eq_true p555
                replace q555 := eq_true q555
                have p556 : 0 ≤ (x8_2 : Int) := td
                have q556 : x8_2 < (l0.length : Int) := td
                obtain ⟨ad556, e556, hx556_0, hx556_1⟩ := at_T25 HR0.out x8_2 p556 q556
                obtain rfl : ad554 = ad556 := (by injection e556)
                replace hx556_0 := tcl HB hx556_0
                replace hx556_1 := tcl HB hx556_1
                replace p556 := eq_true p556
                replace q556 := eq_true q556
                go_wp2
                repeat (go_quiet (fail); try go_wp2)
                go_roundg k3
                case measure => have := HJ3.out; have := HK2.out; have := HK3.out; omega
                case rel => exact ⟨(x9_3), (wrap64 (x10_3 + 1)), tr, tr, H', ⟨by have := HJ3.out; have := HK2.out; have := HK3.out; omega⟩, ⟨tN HO_7.out⟩, ⟨zb⟩⟩
              ·rw [if_neg c20] at H
               exact absurd H (by simp)
             ·rw [if_neg c19] at H
              exact absurd H (by simp)
            ·rw [if_neg c18] at H
             exact absurd H (by simp)
           ·rw [if_neg c17] at H
            have c17b0 : decide (x10_3 < (t551.length : Int)) = false := decide_eq_false c17
            clear c17
            obtain rfl := Option.some.inj H
            obtain ⟨Ao24, co24, eo24⟩ := Kd.N_slice HO_7.out
            subst eo24
            go_wp2
            repeat (go_quiet (fail); try go_wp2)
            go_ret
            exact ⟨by first | rfl | (simp [errW_none, errW_some] <;> rfl) | (simp [*, errW_none, errW_some] <;> rfl), zb⟩
        ·rw [if_neg c16] at H
         have c16b0 : (((rd_T25 l0 x8_2).f0).toList == a1.toList) = false := beq_eq_false_iff_ne.mpr c16
         have c16b1 : (((rd_T25 l0 x8_2).f0).toList != a1.toList) = true := bne_iff_ne.mpr c16
         have H' := Aside0.mk H
         clear H
         have p554 : 0 ≤ (x8_2 : Int) := td
         have q554 : x8_2 < (l0.length : Int) := td
         obtain ⟨ad554, e554, hx554_0, hx554_1⟩ := at_T25 HR0.out x8_2 p554 q554
         cases e554
         replace hx554_0 := tcl HB hx554_0
         replace hx554_1 := tcl HB hx554_1
         replace p554 := eq_true p554
         replace q554 := eq_true q554
         go_wp2
         repeat (go_quiet (fail); try go_wp2)
         go_roundg k2
         case measure => have := HJ3.out; have := HK2.out; omega
         case rel => exact ⟨(wrap64 (x8_2 + 1)), tr, H', ⟨by have := HJ3.out; have := HK2.out; omega⟩, ⟨tN HO_7.out⟩, ⟨zb⟩⟩
       ·rw [if_neg c15] at H
        exact absurd H (by simp)
      ·rw [if_neg c14] at H
       have c14b0 : decide (x8_2 < (l0.length : Int)) = false := decide_eq_false c14
       clear c14
       obtain rfl := Option.some.inj H
       go_wp2
       repeat (go_quiet (fail); try go_wp2)
       go_ret
       exact ⟨by first | rfl | (simp [errW_none, errW_some] <;> rfl) | (simp [*, errW_none, errW_some] <;> rfl), zb⟩

def impl_ReadEnd.f (k : Nat) (l0 : List (S75)) : Option (Int) := (impl_LogValid.f k l0).bind fun t557 => (if t557 = true then (if (l0.length : Int) = 0 then (some 0) else (if 0 ≤ (wrap64 ((l0.length : Int) - 1)) then (if (wrap64 ((l0.length : Int) - 1)) < (l0.length : Int) then ((impl_Batch_last.f ((rd_T75 l0 (wrap64 ((l0.length : Int) - 1))).f0) ((rd_T75 l0 (wrap64 ((l0.length : Int) - 1))).f1) ((rd_T75 l0 (wrap64 ((l0.length : Int) - 1))).f2) ((rd_T75 l0 (wrap64 ((l0.length : Int) - 1))).f3) ((rd_T75 l0 (wrap64 ((l0.length : Int) - 1))).f4) ((rd_T75 l0 (wrap64 ((l0.length : Int) - 1))).f5)).bind fun t559 => (some (wrap64 (t559 + 1)))) else (none)) else (none))) else (some (-1)))
set_option maxHeartbeats 8000000 in
set_option maxRecDepth 100000 in
theorem impl_ReadEnd.calls (k : Nat) (A0 : Option Addr) (c0 : Nat) (l0 : List (S75)) (r : Int) (w : World) (hr0 : Kd.C k75 w A0 l0.length l0) (hc0 : l0.length ≤ c0) (h : impl_ReadEnd.f k l0 = some r) :
  Calls Try.prog 22 #[.slice A0 l0.length c0] w fun e w' => e = .returned (.int .i64 r) ∧ Below w.heap.size w w' := by
 have hu75 := Try.underlying75
 have HR0 := Aside0.mk hr0
 have HC0 := Aside0.mk hc0
 clear hr0 hc0
 have HB := Aside0.mk (Below.refl w.heap.size w)
 have H : ((impl_LogValid.f k l0).bind fun t557 => (if t557 = true then (if (l0.length : Int) = 0 then (some 0) else (if 0 ≤ (wrap64 ((l0.length : Int) - 1)) then (if (wrap64 ((l0.length : Int) - 1)) < (l0.length : Int) then ((impl_Batch_last.f ((rd_T75 l0 (wrap64 ((l0.length : Int) - 1))).f0) ((rd_T75 l0 (wrap64 ((l0.length : Int) - 1))).f1) ((rd_T75 l0 (wrap64 ((l0.length : Int) - 1))).f2) ((rd_T75 l0 (wrap64 ((l0.length : Int) - 1))).f3) ((rd_T75 l0 (wrap64 ((l0.length : Int) - 1))).f4) ((rd_T75 l0 (wrap64 ((l0.length : Int) - 1))).f5)).bind fun t559 => (some (wrap64 (t559 + 1)))) else (none)) else (none))) else (some (-1)))) = some r := h
 clear h
 replace H := tbe H
 obtain ⟨t557, A2, H⟩ := H
 by_cases c3 : t557 = true
 ·subst c3
  rw [if_pos rfl] at H
  by_cases c4 : (l0.length : Int) = 0
  ·rw [if_pos c4] at H
   have c4b0 : ((l0.length : Int) == 0) = true := beq_iff_eq.mpr c4
   have c4b1 : ((l0.length : Int) != 0) = false := bne_eq_false_iff_eq.mpr c4
   clear c4
   obtain rfl := Option.some.inj H
   go_enter Try.func22, Try.ntmps22
   go_wp2_with (first | ((with_reducible refine gate_callee (f := 37) rfl ?_); refine goesL_ (some 5) rfl rfl Try.func37 (by kernel_rfl) rfl #[.slice A0 l0.length c0] rfl tq ?_; (with_reducible refine (impl_LogValid.calls k _ _ l0 true _ ?side1 ?side2 A2.out).mono ?_); (case side1 => exact tC HR0.out); (case side2 => exact HC0.out); rintro e w5 ⟨rfl, hb⟩; refine ⟨_, rfl, ?_⟩; replace HB := tBs HB hb; (try clear hb); (try clear hb2); (try clear hk); (try clear hi)))
   go_ret
   exact ⟨by first | rfl | (simp [errW_none, errW_some] <;> rfl) | (simp [*, errW_none, errW_some] <;> rfl), zb⟩
  ·rw [if_neg c4] at H
   have c4b0 : ((l0.length : Int) == 0) = false := beq_eq_false_iff_ne.mpr c4
   have c4b1 : ((l0.length : Int) != 0) = true := bne_iff_ne.mpr c4
   have c4b2 : ¬ (l0 = []) := fun h_ => c4 (by rw [h_]; rfl)
   obtain ⟨ji6, hji6⟩ : ∃ j_ : Int, (wrap64 ((l0.length : Int) - 1)) = j_ := ⟨_, rfl⟩
   replace H : (if 0 ≤ (ji6) then (if (ji6) < (l0.length : Int) then ((impl_Batch_last.f ((rd_T75 l0 (ji6)).f0) ((rd_T75 l0 (ji6)).f1) ((rd_T75 l0 (ji6)).f2) ((rd_T75 l0 (ji6)).f3) ((rd_T75 l0 (ji6)).f4) ((rd_T75 l0 (ji6)).f5)).bind fun t559 => (some (wrap64 (t559 + 1)))) else (none)) else (none)) = some r := by first | (rw [hji6] at H; exact H) | (simp only [hji6] at H ⊢; exact H)
   (try rw [hji6] at A2)
   have hji6w : (IntKind.i64.wrap ((l0.length : Int) - 1)) = ji6 := (i64_w _).trans hji6
   by_cases c7 : 0 ≤ (ji6)
   ·rw [if_pos c7] at H
    have c7b0 : decide (0 ≤ (ji6)) = true := decide_eq_true c7
    clear c7
    by_cases c8 : (ji6) < (l0.length : Int)
    ·rw [if_pos c8] at H
     have c8b0 : decide ((ji6) < (l0.length : Int)) = true := decide_eq_true c8
     clear c8
     replace H := tbe H
     obtain ⟨t559, A9, H⟩ := H
     obtain rfl := Option.some.inj H
     go_enter Try.func22, Try.ntmps22
     go_wp2_with (first | ((with_reducible refine gate_callee (f := 37) rfl ?_); refine goesL_ (some 5) rfl rfl Try.func37 (by kernel_rfl) rfl #[.slice A0 l0.length c0] rfl tq ?_; (with_reducible refine (impl_LogValid.calls k _ _ l0 true _ ?side1 ?side2 A2.out).mono ?_); (case side1 => exact tC HR0.out); (case side2 => exact HC0.out); rintro e w10 ⟨rfl, hb⟩; refine ⟨_, rfl, ?_⟩; replace HB := tBs HB hb; (try clear hb); (try clear hb2); (try clear hk); (try clear hi); have p558 : 0 ≤ ((ji6) : Int) := td; have q558 : (ji6) < (l0.length : Int) := td; obtain ⟨ad558, A558_5, c558_5, e558, hx558_0, hx558_1, hx558_2, hx558_3, hx558_4, hx558_5, hl558_5, hi558_5⟩ := at_T75 HR0.out (ji6) p558 q558; cases e558; replace hx558_0 := tcl HB hx558_0; replace hx558_1 := tcl HB hx558_1; replace hx558_2 := tcl HB hx558_2; replace hx558_3 := tcl HB hx558_3; replace hx558_4 := tcl HB hx558_4; replace hx558_5 := tcl HB hx558_5; have HR558_5 := Aside0.mk hi558_5; have HC558_5 := Aside0.mk hl558_5; clear hi558_5 hl558_5; replace p558 := eq_true p558; replace q558 := eq_true q558) | ((with_reducible refine gate_callee (f := 41) rfl ?_); refine goesL_ (some 17) rfl rfl Try.func41 (by kernel_rfl) rfl #[.agg #[.bool ((rd_T75 l0 (ji6)).f0), .bool ((rd_T75 l0 (ji6)).f1), .int .i64 ((rd_T75 l0 (ji6)).f2), .int .i64 ((rd_T75 l0 (ji6)).f3), .int .i64 ((rd_T75 l0 (ji6)).f4), .slice A558_5 ((rd_T75 l0 (ji6)).f5).length c558_5]] rfl (by (try simp only [List.map_toArray, List.map_cons, List.map_nil]); first | done | (simp only [hji6]; rfl) | rfl | (simp only [List.length_drop, List.length_take]; rfl)) ?_; (with_reducible refine (impl_Batch_last.calls ((rd_T75 l0 (ji6)).f0) ((rd_T75 l0 (ji6)).f1) ((rd_T75 l0 (ji6)).f2) ((rd_T75 l0 (ji6)).f3) ((rd_T75 l0 (ji6)).f4) _ _ ((rd_T75 l0 (ji6)).f5) t559 _ ?side1 ?side2 A9.out).mono ?_); (case side1 => exact tC (Kd.C_below HR558_5.out HB.out)); (case side2 => exact HC558_5.out); rintro e w11 ⟨rfl, hb⟩; refine ⟨_, rfl, ?_⟩; replace HB := tBs HB hb; (try clear hb); (try clear hb2); (try clear hk); (try clear hi)))
     go_ret
     exact ⟨by first | rfl | (simp [errW_none, errW_some] <;> rfl) | (simp only [← hji6]; first | rfl | (simp [errW_none, errW_some] <;> rfl)) | (simp [*, errW_none, errW_some] <;> rfl), zb⟩
    ·rw [if_neg c8] at H
     exact absurd H (by simp)
   ·rw [if_neg c7] at H
    exact absurd H (by simp)
 ·replace c3 := Bool.eq_false_iff.mpr c3
  subst c3
  rw [if_neg (show ¬ (false = true) by decide)] at H
  obtain rfl := Option.some.inj H
  go_enter Try.func22, Try.ntmps22
  go_wp2_with (first | ((with_reducible refine gate_callee (f := 37) rfl ?_); refine goesL_ (some 5) rfl rfl Try.func37 (by kernel_rfl) rfl #[.slice A0 l0.length c0] rfl tq ?_; (with_reducible refine (impl_LogValid.calls k _ _ l0 false _ ?side1 ?side2 A2.out).mono ?_); (case side1 => exact tC HR0.out); (case side2 => exact HC0.out); rintro e w12 ⟨rfl, hb⟩; refine ⟨_, rfl, ?_⟩; replace HB := tBs HB hb; (try clear hb); (try clear hb2); (try clear hk); (try clear hi)))
  go_ret
  exact ⟨by first | rfl | (simp [errW_none, errW_some] <;> rfl) | (simp [*, errW_none, errW_some] <;> rfl), zb⟩

def laws_allOf.l0 : Nat → List (S75) → List (S78) → Int → Option ((List (S78)))
 | 0, _, _, _ => none
 | k + 1, x0, x3, x4 => if x4 < (x0.length : Int) then (if 0 ≤ x4 then (if x3.length + ((rd_T75 x0 x4).f5).length < 1759218604441 then (laws_allOf.l0 k x0 (x3 ++ ((rd_T75 x0 x4).f5)) (wrap64 (x4 + 1))) else (none)) else (none)) else (some x3)
def laws_allOf.f (k : Nat) (l0 : List (S75)) : Option ((List (S78))) := laws_allOf.l0 k l0 (([] : List (S78))) 0
set_option maxHeartbeats 8000000 in
set_option maxRecDepth 100000 in
theorem laws_allOf.calls (k : Nat) (P0_ : Nat → Prop) (A0 : Option Addr) (c0 : Nat) (l0 : List (S75)) (r : List (S78)) (w : World) (hs0 : Kd.V k75 75 w w.heap.size (fun k_ => P0_ k_) (.slice A0 l0.length c0) l0) (h : laws_allOf.f k l0 = some r) :
  Calls Try.prog 23 #[.slice A0 l0.length c0] w fun e w' => ∃ v0_ : Value, e = .returned (v0_) ∧ Kd.N k78 78 w' w.heap.size (fun k_ => (P0_ k_ ∨ w.heap.size ≤ k_)) v0_ r ∧ Below w.heap.size w w' := by
 have HO0 := Aside0.mk (show Kd.V k75 75 w w.heap.size (fun k_ => (P0_ k_ ∨ w.heap.size ≤ k_)) (.slice A0 l0.length c0) l0 from Kd.V_mono hs0 (fun k_ hk => .inl hk))
 have HB := Aside0.mk (Below.refl w.heap.size w)
 have H : (laws_allOf.l0 k l0 (([] : List (S78))) 0) = some r := h
 clear h
 obtain ⟨y560, hy560⟩ : ∃ y_ : List (S78), y_ = (([] : List (S78))) := ⟨_, rfl⟩
 replace H : (laws_allOf.l0 k l0 y560 0) = some r := by first | (rw [hy560]; with_reducible exact H) | (have H2_ := (Option.bind_some _ _).symm.trans H; rw [hy560]; with_reducible exact H2_) | (have H2_ := (Option.bind_some _ _).symm.trans H; with_reducible exact H2_) | with_reducible exact H | (rw [hy560]; exact H) | exact H
 have Ny560 := Aside0.mk hy560
 clear hy560
 have H' := Aside0.mk H
 clear H
 go_enter Try.func23, Try.ntmps23
 go_wp2_with (first | ((with_reducible refine gate_dst (N := 5) rfl ?_); refine Kd.N_lit k78 _ 78 ?hg (N' := 5) ?hd (xs := ([] : List (S78))) (inner := []) (ok := (fun k_ => (P0_ k_ ∨ w.heap.size ≤ k_))) (okp := (fun k_ => (P0_ k_ ∨ w.heap.size ≤ k_))) ?hr ?hp (fun _ hk => hk) ((show ∀ k_, w.heap.size ≤ k_ → (fun k_ => (P0_ k_ ∨ w.heap.size ≤ k_)) k_ from fun k_ hk => (.inr (Nat.le_trans (below_size zb) hk))) _ (Nat.le_refl _)) (Below.refl _ _) (Nat.le_refl _) (by simp) ?_; (case hd => rfl); (case hg => rfl); (case hr => first | (go_simp; done) | (go_simp; rfl)); (case hp => exact (Reps.none _ _)); intro v561 w2 ho3 hb hg_ hnew_; clear hg_ hnew_; (first | rw [← Ny560.out] at ho3 | (simp only [Int.reduceToNat] at ho3; rw [← Ny560.out] at ho3)); replace HO0 := tVe HO0 ho3 hb; have HO562 := tNl ho3 HB; replace HB := tBs HB hb; clear hb ho3))
 go_loopg [3, 4] k (fun kq v3 v4 w' => ∃ (x3_1 : List (S78)) (x4_1 : Int), v4 = .int .i64 x4_1 ∧ Aside0 (laws_allOf.l0 kq l0 x3_1 x4_1 = some r) ∧ Aside0 (kq ≤ k) ∧ Aside0 (Kd.V k75 75 w' w.heap.size (fun k_ => (P0_ k_ ∨ w.heap.size ≤ k_) ∧ some k_ ≠ (v3 : Value).ownBlock) (.slice A0 l0.length c0) l0) ∧ Aside0 (Kd.N k78 78 w' w.heap.size (fun k_ => (P0_ k_ ∨ w.heap.size ≤ k_)) v3 x3_1) ∧ Aside0 (Below w.heap.size w w'))
 case atStart => exact ⟨(y560), (0), tr, H', ⟨Nat.le_refl _⟩, ⟨tV HO0.out⟩, ⟨tN HO562.out⟩, ⟨zb⟩⟩
 case round =>
  clear H'
  obtain ⟨x3_1, x4_1, rfl, HA, HK1, HO_0, HO_3, HB⟩ := hrel
  cases gk with
  | zero => exact absurd HA.out (by simp [laws_allOf.l0])
  | succ k1 =>
   have H := HA.out
   clear HA
   simp only [laws_allOf.l0] at H
   by_cases c4 : x4_1 < (l0.length : Int)
   ·rw [if_pos c4] at H
    have c4b0 : decide (x4_1 < (l0.length : Int)) = true := decide_eq_true c4
    clear c4
    by_cases c5 : 0 ≤ x4_1
    ·rw [if_pos c5] at H
     have c5b0 : decide (0 ≤ x4_1) = true := decide_eq_true c5
     clear c5
     by_cases c6 : x3_1.length + ((rd_T75 l0 x4_1).f5).length < 1759218604441
     ·rw [if_pos c6] at H
      have LMc6 := Aside0.mk c6
      clear c6
      obtain ⟨y564, hy564⟩ : ∃ y_ : List (S78), y_ = (x3_1 ++ ((rd_T75 l0 x4_1).f5)) := ⟨_, rfl⟩
      replace H : (laws_allOf.l0 k1 l0 y564 (wrap64 (x4_1 + 1))) = some r := by first | (rw [hy564]; with_reducible exact H) | (have H2_ := (Option.bind_some _ _).symm.trans H; rw [hy564]; with_reducible exact H2_) | (have H2_ := (Option.bind_some _ _).symm.trans H; with_reducible exact H2_) | with_reducible exact H | (rw [hy564]; exact H) | exact H
      have Ny564 := Aside0.mk hy564
      clear hy564
      have H' := Aside0.mk H
      clear H
      have p563 : 0 ≤ (x4_1 : Int) := td
      have q563 : x4_1 < (l0.length : Int) := td
      obtain ⟨ad563, A563_5, c563_5, e563, hx563_0, hx563_1, hx563_2, hx563_3, hx563_4, hx563_5, hl563_5, hi563_5⟩ := at_T75 (Kd.V_reads' HO_0.out).2.2 x4_1 p563 q563
      cases e563
      obtain ⟨ce563, hce563, hMe563, hcc563⟩ := Kd.V_get HO_0.out z75 x4_1 p563 (by first | exact q563 | exact td | (have e_ := (Kd.V_reads' HO_0.out).1; omega))
      obtain ⟨ua563_5, uc563_5, rfl, ul563_5, ge563_5⟩ := k75_openF hMe563
      have hv563_5 := hcc563 5 _ rfl
      rw [add_field _ _ 5 (by omega)] at hv563_5
      replace hv563_5 := Option.some.inj (hv563_5.symm.trans hx563_5)
      injection hv563_5 with hva_ hvn_ hvc_
      rw [hva_] at ge563_5
      rw [hvc_] at ul563_5
      have HL563_5 := Aside0.mk (show Kd.V k78 78 _ w.heap.size _ _ ((rd_T75 l0 x4_1).f5) from Kd.V_mk ul563_5 ge563_5)
      clear hva_ hvn_ hvc_ ge563_5 ul563_5
      clear hcc563 hce563
      have HR563_5 := Aside0.mk hi563_5
      have HC563_5 := Aside0.mk hl563_5
      clear hi563_5 hl563_5
      replace p563 := eq_true p563
      replace q563 := eq_true q563
      go_wp2_with (first | ((with_reducible refine gate_builtin (b := .append) (xs := #[.tmp 12, .tmp 17]) rfl ?_); at_builtin; refine Kd.N_append_rows k78 (w0 := w) w.heap.size rfl (.tmp 12) (.tmp 17) 46 78 (.agg #[(.int .i64 0), (.int .i64 0), (.bool false), (.slice none 0 0), (.bool false), (.slice none 0 0)]) 80 rfl Try.underlying46 info78 rfl (by decide) (by omega) u3 x3_1 ((rd_T75 l0 x4_1).f5) _ _ _ (fun k_ => (P0_ k_ ∨ w.heap.size ≤ k_)) (fun k_ => ((fun k_ => (P0_ k_ ∨ w.heap.size ≤ k_))) k_ ∧ some k_ ≠ (u3 : Value).ownBlock) rfl rfl ?aO ?aR (fun _ hk => hk) ?aF ?aB ?aS ?aL ?_; (case aR => exact (by skip; exact Kd.V_F (Kd.V_mono (ok' := (fun k_ => ((fun k_ => (P0_ k_ ∨ w.heap.size ≤ k_))) k_ ∧ some k_ ≠ (u3 : Value).ownBlock)) (HL563_5.out) (fun k_ hk => ⟨hk.1, hk.2⟩)))); (case aB => exact zb); (case aF => exact (fun k_ hk => (.inr (Nat.le_trans (below_size zb) hk)))); (case aO => exact (tN HO_3.out)); (case aS => exact (below_size zb)); (case aL => have := LMc6.out; omega); intro v565 w7 ho hb hg hat; rw [← Ny564.out] at ho; replace HO_0 := Aside0.mk (Kd.V_afterv (ok := (fun k_ => (P0_ k_ ∨ w.heap.size ≤ k_))) (tV HO_0.out) hg hat); replace HL563_5 := Aside0.mk (Kd.V_afterv (ok := (fun k_ => (P0_ k_ ∨ w.heap.size ≤ k_))) (tV HL563_5.out) hg hat); replace HB := Aside0.mk (hb); have HO566 := Aside0.mk (ho); clear HO_3; clear ho hb hg hat))
      go_roundg k1
      case measure => have := HK1.out; omega
      case rel => exact ⟨(y564), (wrap64 (x4_1 + 1)), tr, H', ⟨by have := HK1.out; omega⟩, ⟨tV HO_0.out⟩, ⟨tN HO566.out⟩, ⟨zb⟩⟩
     ·rw [if_neg c6] at H
      exact absurd H (by simp)
    ·rw [if_neg c5] at H
     exact absurd H (by simp)
   ·rw [if_neg c4] at H
    have c4b0 : decide (x4_1 < (l0.length : Int)) = false := decide_eq_false c4
    clear c4
    obtain rfl := Option.some.inj H
    go_wp2
    go_ret
    exact ⟨_, by first | rfl | (simp [errW_none, errW_some] <;> rfl) | (simp [*, errW_none, errW_some] <;> rfl), tN HO_3.out, zb⟩

end Go.Proofs.Ytkihdohphddjaaa.G

namespace Go.Proofs.Ytkihdohphddjaaa.G
open Go.RowKit Go.Proofs.YtkihdohphddjaaaW.PrintWords Go.Proofs.YtkihdohphddjaaaW.PrintLast Go.Proofs.YtkihdohphddjaaaW.PrintMore
attribute [local go_sem] max2_int min2_int max_two min_two max_three min_three max_four min_four   -- for this text's walks alone
set_option linter.unusedVariables false
set_option linter.unusedSimpArgs false

def laws_FnGroupsLeftEnd.j0 : Nat → List (S25) → ByteArray → List (S75) → Int → Int → Bool → Option (Bool)
 | 0, _, _, _, _, _, _ => none
 | k + 1, x3, x4, x5, x6, x7, x35 => if x35 = true then (some (x6 == x7)) else ((impl_ReadEnd.f k x5).bind fun t576 => ((impl_GroupsPut.f k x3 x4 t576).bind fun bt577 => ((impl_GroupsPut.f k x3 x4 0).bind fun bt581 => (if bt577.2 = true then (if bt581.2 = true then ((impl_GroupsLeft.f k bt577.1 x4 x5).bind fun t585 => (if t585 = 0 then ((impl_GroupsLeft.f k bt581.1 x4 x5).bind fun t586 => ((laws_allOf.f k x5).bind fun t587 => (if t586 = (t587.length : Int) then ((laws_allOf.f k x5).bind fun t590 => (some (decide (x6 ≤ (t590.length : Int))))) else (some false)))) else (some false))) else (some false)) else (some false)))))
def laws_FnGroupsLeftEnd.f (k : Nat) (l0 : List Int) : Option (Bool) := if (l0.length : Int) > 1048576 then (some true) else ((spec_DrawGroupsLeft.f k l0).bind fun bt567 => ((impl_GroupsLeft.f k bt567.1 bt567.2.1 bt567.2.2).bind fun t574 => ((spec_GroupsLeft.f k bt567.1 bt567.2.1 bt567.2.2).bind fun t575 => (if t574 = t575 then (laws_FnGroupsLeftEnd.j0 k bt567.1 bt567.2.1 bt567.2.2 t574 t575 (decide (t575 < 0))) else (laws_FnGroupsLeftEnd.j0 k bt567.1 bt567.2.1 bt567.2.2 t574 t575 true)))))
set_option maxHeartbeats 8000000 in
set_option maxRecDepth 100000 in
theorem laws_FnGroupsLeftEnd.calls (k : Nat) (A0 : Option Addr) (c0 : Nat) (l0 : List Int) (r : Bool) (w : World) (hr0 : Kd.C (Kd.int .u8) w A0 l0.length l0) (hc0 : l0.length ≤ c0) (h : laws_FnGroupsLeftEnd.f k l0 = some r) :
  Calls Try.prog 6 #[.slice A0 l0.length c0] w fun e w' => e = .returned (.bool r) ∧ Below w.heap.size w w' := by
 have hu25 := Try.underlying25
 have HR0 := Aside0.mk hr0
 have HC0 := Aside0.mk hc0
 clear hr0 hc0
 have HB := Aside0.mk (Below.refl w.heap.size w)
 have H : (if (l0.length : Int) > 1048576 then (some true) else ((spec_DrawGroupsLeft.f k l0).bind fun bt567 => ((impl_GroupsLeft.f k bt567.1 bt567.2.1 bt567.2.2).bind fun t574 => ((spec_GroupsLeft.f k bt567.1 bt567.2.1 bt567.2.2).bind fun t575 => (if t574 = t575 then (laws_FnGroupsLeftEnd.j0 k bt567.1 bt567.2.1 bt567.2.2 t574 t575 (decide (t575 < 0))) else (laws_FnGroupsLeftEnd.j0 k bt567.1 bt567.2.1 bt567.2.2 t574 t575 true)))))) = some r := h
 clear h
 by_cases c2 : (l0.length : Int) > 1048576
 ·rw [if_pos c2] at H
  have c2b0 : decide (1048576 < (l0.length : Int)) = true := decide_eq_true c2
  have c2b1 : decide (1048576 < l0.length) = true := decide_eq_true (by omega)
  clear c2
  obtain rfl := Option.some.inj H
  go_enter Try.func6, Try.ntmps6
  go_wp2
  all_goals go_ret
  all_goals exact ⟨by first | rfl | (simp [errW_none, errW_some] <;> rfl) | (simp [*, errW_none, errW_some] <;> rfl), zb⟩
 ·rw [if_neg c2] at H
  have c2b0 : decide (1048576 < (l0.length : Int)) = false := decide_eq_false c2
  have c2b1 : decide (1048576 < l0.length) = false := decide_eq_false (by omega)
  clear c2
  replace H := tbe H
  obtain ⟨⟨t567, t570, t571⟩, A3, H⟩ := H
  dsimp only at H
  replace H := tbe H
  obtain ⟨t574, A4, H⟩ := H
  replace H := tbe H
  obtain ⟨t575, A5, H⟩ := H
  have HC6 := Aside0.mk H
  clear H
  go_enter Try.func6, Try.ntmps6
  go_upto_region 6 with (first | ((with_reducible refine gate_callee (f := 19) rfl ?_); refine goesL_ (some 17) rfl rfl Try.func19 (by kernel_rfl) rfl #[.slice A0 l0.length c0] rfl tq ?_; (with_reducible refine (spec_DrawGroupsLeft.calls k _ _ l0 t567 t570 t571 _ ?side1 ?side2 A3.out).mono ?_); (case side1 => exact tC HR0.out); (case side2 => exact HC0.out); rintro e w7 ⟨v568, v572, rfl, ho0, ho1, hb⟩; have u_v568 := tsv Try.prog v568 ho0; have u_v572 := tsv Try.prog v572 ho1; refine ⟨_, rfl, ?_⟩; have HO569 := Aside0.mk (Kd.R_lower (Kd.R_mono (ok' := fun k_ => True) ho0 (fun _ hk_ => trivial)) (below_size zb)); have HO573 := Aside0.mk (Kd.N_lower (Kd.N_mono (ok' := fun k_ => some k_ ≠ (v568 : Value).ownBlock) ho1 (fun k_ hk_ => hk_.2)) (below_size zb)); replace HB := tBs HB hb; (try clear hb); (try clear hb2); (try clear hk); (try clear hi); (try clear ho0); (try clear ho1); obtain ⟨Ao8, co8, eo8⟩ := Kd.R_slice HO569.out; subst eo8; obtain ⟨Ao9, co9, eo9⟩ := Kd.N_slice HO573.out; subst eo9) | ((with_reducible refine gate_callee (f := 20) rfl ?_); refine goesL_ (some 24) rfl rfl Try.func20 (by kernel_rfl) rfl #[.slice Ao8 t567.length co8, .string t570, .slice Ao9 t571.length co9] rfl tq ?_; (with_reducible refine (impl_GroupsLeft.calls k _ _ t567 t570 _ _ t571 t574 _ ?side1 ?side2 ?side3 ?side4 A4.out).mono ?_); (case side1 => repeat (first | exact (Kd.R_reads' HO569.out).2.2 | (with_reducible refine Kd.C_alloc ?_ _) | (with_reducible refine Kd.C_drewN ?_ _) | (with_reducible refine Kd.C_drew ?_))); (case side2 => exact (Kd.R_reads' HO569.out).2.1); (case side3 => repeat (first | exact (Kd.N_reads' HO573.out).2.2 | (with_reducible refine Kd.C_alloc ?_ _) | (with_reducible refine Kd.C_drewN ?_ _) | (with_reducible refine Kd.C_drew ?_))); (case side4 => exact (Kd.N_reads' HO573.out).2.1); rintro e w10 ⟨rfl, hb⟩; refine ⟨_, rfl, ?_⟩; replace HO569 := tRb HO569 hb; replace HO573 := tNb HO573 hb; replace HB := tBs HB hb; (try clear hb); (try clear hb2); (try clear hk); (try clear hi)) | ((with_reducible refine gate_callee (f := 21) rfl ?_); refine goesL_ (some 28) rfl rfl Try.func21 (by kernel_rfl) rfl #[.slice Ao8 t567.length co8, .string t570, .slice Ao9 t571.length co9] rfl tq ?_; (with_reducible refine (spec_GroupsLeft.calls k _ _ t567 t570 _ _ t571 t575 _ ?side1 ?side2 ?side3 ?side4 A5.out).mono ?_); (case side1 => repeat (first | exact (Kd.R_reads' HO569.out).2.2 | (with_reducible refine Kd.C_alloc ?_ _) | (with_reducible refine Kd.C_drewN ?_ _) | (with_reducible refine Kd.C_drew ?_))); (case side2 => exact (Kd.R_reads' HO569.out).2.1); (case side3 => repeat (first | exact (Kd.N_reads' HO573.out).2.2 | (with_reducible refine Kd.C_alloc ?_ _) | (with_reducible refine Kd.C_drewN ?_ _) | (with_reducible refine Kd.C_drew ?_))); (case side4 => exact (Kd.N_reads' HO573.out).2.1); rintro e w11 ⟨rfl, hb⟩; refine ⟨_, rfl, ?_⟩; replace HO569 := tRb HO569 hb; replace HO573 := tNb HO573 hb; replace HB := tBs HB hb; (try clear hb); (try clear hb2); (try clear hk); (try clear hi)))
  (try simp only [Act.put, List.setIfInBounds_toArray, List.set_cons_zero, List.set_cons_succ])
  go_cut [35] (fun v35 wc => ∃ (kq : Nat) (x35_5 : Bool), v35 = .bool x35_5 ∧ Aside0 (laws_FnGroupsLeftEnd.j0 kq t567 t570 t571 t574 t575 x35_5 = some r) ∧ Aside0 (kq ≤ k) ∧ Aside0 (Kd.R k25 25 wc w.heap.size (fun _ => True) (.slice Ao8 t567.length co8) t567) ∧ Aside0 (Kd.N k75 75 wc w.heap.size (fun k_ => some k_ ≠ ((.slice Ao8 t567.length co8) : Value).ownBlock) (.slice Ao9 t571.length co9) t571) ∧ Aside0 (Below w.heap.size w wc))
  case first =>
   have H := HC6.out
   clear HC6
   by_cases c12 : t574 = t575
   ·rw [if_pos c12] at H
    have c12b0 : (t574 == t575) = true := beq_iff_eq.mpr c12
    have c12b1 : (t574 != t575) = false := bne_eq_false_iff_eq.mpr c12
    clear c12
    (first | rw [c12b0] | (simp only [i64_w, i32_w]; rw [c12b0]) | skip)
    have H' := Aside0.mk H
    clear H
    go_wp2
    go_meet
    case rel => exact ⟨_, (decide (t575 < 0)), tr, H', ⟨by first | omega | exact Nat.le_refl _⟩, ⟨tR HO569.out⟩, ⟨tN HO573.out⟩, ⟨zb⟩⟩
   ·rw [if_neg c12] at H
    have c12b0 : (t574 == t575) = false := beq_eq_false_iff_ne.mpr c12
    have c12b1 : (t574 != t575) = true := bne_iff_ne.mpr c12
    (first | rw [c12b0] | (simp only [i64_w, i32_w]; rw [c12b0]) | skip)
    have H' := Aside0.mk H
    clear H
    go_wp2
    go_meet
    case rel => exact ⟨_, (true), tr, H', ⟨by first | omega | exact Nat.le_refl _⟩, ⟨tR HO569.out⟩, ⟨tN HO573.out⟩, ⟨zb⟩⟩
  case rest =>
   clear HC6
   try clear c2; try clear c2b0; try clear c2b1
   obtain ⟨kq, x35_5, rfl, HA, HJ5, HO_3, HO_5, HB⟩ := hcut
   cases kq with
   | zero => exact absurd HA.out (by simp [laws_FnGroupsLeftEnd.j0])
   | succ kj5 =>
    have H := HA.out
    clear HA
    simp only [laws_FnGroupsLeftEnd.j0] at H
    by_cases c13 : x35_5 = true
    ·subst c13
     rw [if_pos rfl] at H
     obtain rfl := Option.some.inj H
     go_wp2
     all_goals go_ret
     all_goals exact ⟨by first | rfl | (simp [errW_none, errW_some] <;> rfl) | (simp [*, errW_none, errW_some] <;> rfl), zb⟩
    ·replace c13 := Bool.eq_false_iff.mpr c13
     subst c13
     rw [if_neg (show ¬ (false = true) by decide)] at H
     replace H := tbe H
     obtain ⟨t576, A14, H⟩ := H
     replace H := tbe H
     obtain ⟨⟨t577, t580⟩, A15, H⟩ := H
     dsimp only at H
     replace H := tbe H
     obtain ⟨⟨t581, t584⟩, A16, H⟩ := H
     dsimp only at H
     by_cases c17 : t580 = true
     ·subst c17
      rw [if_pos rfl] at H
      by_cases c18 : t584 = true
      ·subst c18
       rw [if_pos rfl] at H
       replace H := tbe H
       obtain ⟨t585, A19, H⟩ := H
       by_cases c20 : t585 = 0
       ·rw [if_pos c20] at H
        have c20b0 : (t585 == 0) = true := beq_iff_eq.mpr c20
        have c20b1 : (t585 != 0) = false := bne_eq_false_iff_eq.mpr c20
        clear c20
        replace H := tbe H
        obtain ⟨t586, A21, H⟩ := H
        replace H := tbe H
        obtain ⟨t587, A22, H⟩ := H
        by_cases c23 : t586 = (t587.length : Int)
        ·rw [if_pos c23] at H
         have c23b0 : (t586 == (t587.length : Int)) = true := beq_iff_eq.mpr c23
         have c23b1 : (t586 != (t587.length : Int)) = false := bne_eq_false_iff_eq.mpr c23
         clear c23
         replace H := tbe H
         obtain ⟨t590, A24, H⟩ := H
         obtain rfl := Option.some.inj H
         go_wp2_with (first | ((with_reducible refine gate_callee (f := 22) rfl ?_); refine goesL_ (some 43) rfl rfl Try.func22 (by kernel_rfl) rfl #[.slice Ao9 t571.length co9] rfl tq ?_; (with_reducible refine (impl_ReadEnd.calls kj5 _ _ t571 t576 _ ?side1 ?side2 A14.out).mono ?_); (case side1 => repeat (first | exact (Kd.N_reads' HO_5.out).2.2 | (with_reducible refine Kd.C_alloc ?_ _) | (with_reducible refine Kd.C_drewN ?_ _) | (with_reducible refine Kd.C_drew ?_))); (case side2 => exact (Kd.N_reads' HO_5.out).2.1); rintro e w25 ⟨rfl, hb⟩; refine ⟨_, rfl, ?_⟩; replace HO_3 := tRb HO_3 hb; replace HO_5 := tNb HO_5 hb; replace HB := tBs HB hb; (try clear hb); (try clear hb2); (try clear hk); (try clear hi)) | ((with_reducible refine gate_callee (f := 8) rfl ?_); refine goesL_ (some 45) rfl rfl Try.func8 (by kernel_rfl) rfl #[.slice Ao8 t567.length co8, .agg #[.string t570, .int .i64 t576]] rfl tq ?_; (with_reducible refine (impl_GroupsPut.calls kj5 _ _ t567 t570 t576 t577 true _ ?side1 ?side2 A15.out).mono ?_); (case side1 => repeat (first | exact (Kd.R_reads' HO_3.out).2.2 | (with_reducible refine Kd.C_alloc ?_ _) | (with_reducible refine Kd.C_drewN ?_ _) | (with_reducible refine Kd.C_drew ?_))); (case side2 => exact (Kd.R_reads' HO_3.out).2.1); rintro e w26 ⟨v578, rfl, ho0, hb⟩; have u_v578 := tsv Try.prog v578 ho0; refine ⟨_, rfl, ?_⟩; have HO579 := Aside0.mk (Kd.V_lower (Kd.V_mono (ok' := fun k_ => some k_ ≠ (.slice Ao8 t567.length co8 : Value).ownBlock ∧ some k_ ≠ (.slice Ao9 t571.length co9 : Value).ownBlock) ho0 (fun k_ hk_ => ⟨(Kd.fresh' (Kd.R_lt (tR HO_3.out)) k_ hk_), (tfr HO_5 k_ hk_)⟩)) (below_size zb)); replace HO_3 := tRb HO_3 hb; replace HO_5 := tNb HO_5 hb; replace HB := tBs HB hb; (try clear hb); (try clear hb2); (try clear hk); (try clear hi); (try clear ho0)) | ((with_reducible refine gate_callee (f := 8) rfl ?_); refine goesL_ (some 52) rfl rfl Try.func8 (by kernel_rfl) rfl #[.slice Ao8 t567.length co8, .agg #[.string t570, .int .i64 0]] rfl tq ?_; (with_reducible refine (impl_GroupsPut.calls kj5 _ _ t567 t570 0 t581 true _ ?side1 ?side2 A16.out).mono ?_); (case side1 => repeat (first | exact (Kd.R_reads' HO_3.out).2.2 | (with_reducible refine Kd.C_alloc ?_ _) | (with_reducible refine Kd.C_drewN ?_ _) | (with_reducible refine Kd.C_drew ?_))); (case side2 => exact (Kd.R_reads' HO_3.out).2.1); rintro e w27 ⟨v582, rfl, ho0, hb⟩; have u_v582 := tsv Try.prog v582 ho0; refine ⟨_, rfl, ?_⟩; replace HO579 := tVb HO579 hb; have HO583 := Aside0.mk (Kd.V_lower (Kd.V_mono (ok' := fun k_ => some k_ ≠ (.slice Ao8 t567.length co8 : Value).ownBlock ∧ some k_ ≠ (.slice Ao9 t571.length co9 : Value).ownBlock) ho0 (fun k_ hk_ => ⟨(Kd.fresh' (Kd.R_lt (tR HO_3.out)) k_ hk_), (tfr HO_5 k_ hk_)⟩)) (below_size zb)); replace HO_3 := tRb HO_3 hb; replace HO_5 := tNb HO_5 hb; replace HB := tBs HB hb; (try clear hb); (try clear hb2); (try clear hk); (try clear hi); (try clear ho0); obtain ⟨Ao28, co28, eo28⟩ := Kd.V_slice HO579.out; subst eo28) | (go_at_call 20; (with_reducible refine (impl_GroupsLeft.calls kj5 _ _ t577 t570 _ _ t571 t585 _ ?side1 ?side2 ?side3 ?side4 A19.out).mono ?_); (case side1 => repeat (first | exact (Kd.V_reads' HO579.out).2.2 | (with_reducible refine Kd.C_alloc ?_ _) | (with_reducible refine Kd.C_drewN ?_ _) | (with_reducible refine Kd.C_drew ?_))); (case side2 => exact (Kd.V_reads' HO579.out).2.1); (case side3 => repeat (first | exact (Kd.N_reads' HO_5.out).2.2 | (with_reducible refine Kd.C_alloc ?_ _) | (with_reducible refine Kd.C_drewN ?_ _) | (with_reducible refine Kd.C_drew ?_))); (case side4 => exact (Kd.N_reads' HO_5.out).2.1); rintro e w29 ⟨rfl, hb⟩; replace HO_3 := tRb HO_3 hb; replace HO_5 := tNb HO_5 hb; replace HO579 := tVb HO579 hb; replace HO583 := tVb HO583 hb; replace HB := tBs HB hb; (try clear hb); (try clear hb2); (try clear hk); (try clear hi); obtain ⟨Ao30, co30, eo30⟩ := Kd.V_slice HO583.out; subst eo30) | (go_at_call 20; (with_reducible refine (impl_GroupsLeft.calls kj5 _ _ t581 t570 _ _ t571 t586 _ ?side1 ?side2 ?side3 ?side4 A21.out).mono ?_); (case side1 => repeat (first | exact (Kd.V_reads' HO583.out).2.2 | (with_reducible refine Kd.C_alloc ?_ _) | (with_reducible refine Kd.C_drewN ?_ _) | (with_reducible refine Kd.C_drew ?_))); (case side2 => exact (Kd.V_reads' HO583.out).2.1); (case side3 => repeat (first | exact (Kd.N_reads' HO_5.out).2.2 | (with_reducible refine Kd.C_alloc ?_ _) | (with_reducible refine Kd.C_drewN ?_ _) | (with_reducible refine Kd.C_drew ?_))); (case side4 => exact (Kd.N_reads' HO_5.out).2.1); rintro e w31 ⟨rfl, hb⟩; replace HO_3 := tRb HO_3 hb; replace HO_5 := tNb HO_5 hb; replace HO579 := tVb HO579 hb; replace HO583 := tVb HO583 hb; replace HB := tBs HB hb; (try clear hb); (try clear hb2); (try clear hk); (try clear hi)) | (go_at_call 23; (with_reducible refine (laws_allOf.calls kj5 (fun k_ => some k_ ≠ (.slice Ao8 t567.length co8 : Value).ownBlock) _ _ t571 t587 _ ?side1 A22.out).mono ?_); (case side1 => exact Kd.N_V (HO_5.out)); rintro e w32 ⟨v588, rfl, ho0, hb⟩; have u_v588 := tsv Try.prog v588 ho0; replace HO_5 := tNe HO_5 ho0 hb; replace HO579 := tVe HO579 ho0 hb; replace HO583 := tVe HO583 ho0 hb; have HO589 := Aside0.mk (Kd.N_lower (Kd.N_mono (ok' := fun k_ => some k_ ≠ (.slice Ao8 t567.length co8 : Value).ownBlock) ho0 (fun k_ hk_ => Or.elim hk_ (fun hs_ => hs_) (fun hn_ => (Kd.fresh' (Kd.R_lt (tR HO_3.out)) k_ hn_)))) (below_size zb)); replace HO_3 := tRb HO_3 hb; replace HB := tBs HB hb; (try clear hb); (try clear hb2); (try clear hk); (try clear hi); (try clear ho0); obtain ⟨Ao33, co33, eo33⟩ := Kd.N_slice HO589.out; subst eo33) | (go_at_call 23; (with_reducible refine (laws_allOf.calls kj5 (fun k_ => (some k_ ≠ (.slice Ao8 t567.length co8 : Value).ownBlock ∧ some k_ ≠ (.slice Ao33 t587.length co33 : Value).ownBlock)) _ _ t571 t590 _ ?side1 A24.out).mono ?_); (case side1 => exact Kd.N_V (HO_5.out)); rintro e w34 ⟨v591, rfl, ho0, hb⟩; have u_v591 := tsv Try.prog v591 ho0; replace HO_5 := tNe HO_5 ho0 hb; replace HO579 := tVe HO579 ho0 hb; replace HO583 := tVe HO583 ho0 hb; have HO592 := Aside0.mk (Kd.N_lower (Kd.N_mono (ok' := fun k_ => some k_ ≠ (.slice Ao8 t567.length co8 : Value).ownBlock ∧ some k_ ≠ (.slice Ao33 t587.length co33 : Value).ownBlock) ho0 (fun k_ hk_ => ⟨Or.elim hk_ (fun hs_ => hs_.1) (fun hn_ => (Kd.fresh' (Kd.R_lt (tR HO_3.out)) k_ hn_)), Or.elim hk_ (fun hs_ => hs_.2) (fun hn_ => (tfr HO589 k_ hn_))⟩)) (below_size zb)); replace HO_3 := tRb HO_3 hb; replace HO589 := tNe HO589 ho0 hb; replace HB := tBs HB hb; (try clear hb); (try clear hb2); (try clear hk); (try clear hi); (try clear ho0); obtain ⟨Ao35, co35, eo35⟩ := Kd.N_slice HO592.out; subst eo35))
         all_goals go_ret
         all_goals exact ⟨by first | rfl | (simp [errW_none, errW_some] <;> rfl) | (simp [*, errW_none, errW_some] <;> rfl), zb⟩
        ·rw [if_neg c23] at H
         have c23b0 : (t586 == (t587.length : Int)) = false := beq_eq_false_iff_ne.mpr c23
         have c23b1 : (t586 != (t587.length : Int)) = true := bne_iff_ne.mpr c23
         obtain rfl := Option.some.inj H
         go_wp2_with (first | ((with_reducible refine gate_callee (f := 22) rfl ?_); refine goesL_ (some 43) rfl rfl Try.func22 (by kernel_rfl) rfl #[.slice Ao9 t571.length co9] rfl tq ?_; (with_reducible refine (impl_ReadEnd.calls kj5 _ _ t571 t576 _ ?side1 ?side2 A14.out).mono ?_); (case side1 => repeat (first | exact (Kd.N_reads' HO_5.out).2.2 | (with_reducible refine Kd.C_alloc ?_ _) | (with_reducible refine Kd.C_drewN ?_ _) | (with_reducible refine Kd.C_drew ?_))); (case side2 => exact (Kd.N_reads' HO_5.out).2.1); rintro e w36 ⟨rfl, hb⟩; refine ⟨_, rfl, ?_⟩; replace HO_3 := tRb HO_3 hb; replace HO_5 := tNb HO_5 hb; replace HB := tBs HB hb; (try clear hb); (try clear hb2); (try clear hk); (try clear hi)) | ((with_reducible refine gate_callee (f := 8) rfl ?_); refine goesL_ (some 45) rfl rfl Try.func8 (by kernel_rfl) rfl #[.slice Ao8 t567.length co8, .agg #[.string t570, .int .i64 t576]] rfl tq ?_; (with_reducible refine (impl_GroupsPut.calls kj5 _ _ t567 t570 t576 t577 true _ ?side1 ?side2 A15.out).mono ?_); (case side1 => repeat (first | exact (Kd.R_reads' HO_3.out).2.2 | (with_reducible refine Kd.C_alloc ?_ _) | (with_reducible refine Kd.C_drewN ?_ _) | (with_reducible refine Kd.C_drew ?_))); (case side2 => exact (Kd.R_reads' HO_3.out).2.1); rintro e w37 ⟨v578, rfl, ho0, hb⟩; have u_v578 := tsv Try.prog v578 ho0; refine ⟨_, rfl, ?_⟩; have HO579 := Aside0.mk (Kd.V_lower (Kd.V_mono (ok' := fun k_ => some k_ ≠ (.slice Ao8 t567.length co8 : Value).ownBlock ∧ some k_ ≠ (.slice Ao9 t571.length co9 : Value).ownBlock) ho0 (fun k_ hk_ => ⟨(Kd.fresh' (Kd.R_lt (tR HO_3.out)) k_ hk_), (tfr HO_5 k_ hk_)⟩)) (below_size zb)); replace HO_3 := tRb HO_3 hb; replace HO_5 := tNb HO_5 hb; replace HB := tBs HB hb; (try clear hb); (try clear hb2); (try clear hk); (try clear hi); (try clear ho0)) | ((with_reducible refine gate_callee (f := 8) rfl ?_); refine goesL_ (some 52) rfl rfl Try.func8 (by kernel_rfl) rfl #[.slice Ao8 t567.length co8, .agg #[.string t570, .int .i64 0]] rfl tq ?_; (with_reducible refine (impl_GroupsPut.calls kj5 _ _ t567 t570 0 t581 true _ ?side1 ?side2 A16.out).mono ?_); (case side1 => repeat (first | exact (Kd.R_reads' HO_3.out).2.2 | (with_reducible refine Kd.C_alloc ?_ _) | (with_reducible refine Kd.C_drewN ?_ _) | (with_reducible refine Kd.C_drew ?_))); (case side2 => exact (Kd.R_reads' HO_3.out).2.1); rintro e w38 ⟨v582, rfl, ho0, hb⟩; have u_v582 := tsv Try.prog v582 ho0; refine ⟨_, rfl, ?_⟩; replace HO579 := tVb HO579 hb; have HO583 := Aside0.mk (Kd.V_lower (Kd.V_mono (ok' := fun k_ => some k_ ≠ (.slice Ao8 t567.length co8 : Value).ownBlock ∧ some k_ ≠ (.slice Ao9 t571.length co9 : Value).ownBlock) ho0 (fun k_ hk_ => ⟨(Kd.fresh' (Kd.R_lt (tR HO_3.out)) k_ hk_), (tfr HO_5 k_ hk_)⟩)) (below_size zb)); replace HO_3 := tRb HO_3 hb; replace HO_5 := tNb HO_5 hb; replace HB := tBs HB hb; (try clear hb); (try clear hb2); (try clear hk); (try clear hi); (try clear ho0); obtain ⟨Ao39, co39, eo39⟩ := Kd.V_slice HO579.out; subst eo39) | (go_at_call 20; (with_reducible refine (impl_GroupsLeft.calls kj5 _ _ t577 t570 _ _ t571 t585 _ ?side1 ?side2 ?side3 ?side4 A19.out).mono ?_); (case side1 => repeat (first | exact (Kd.V_reads' HO579.out).2.2 | (with_reducible refine Kd.C_alloc ?_ _) | (with_reducible refine Kd.C_drewN ?_ _) | (with_reducible refine Kd.C_drew ?_))); (case side2 => exact (Kd.V_reads' HO579.out).2.1); (case side3 => repeat (first | exact (Kd.N_reads' HO_5.out).2.2 | (with_reducible refine Kd.C_alloc ?_ _) | (with_reducible refine Kd.C_drewN ?_ _) | (with_reducible refine Kd.C_drew ?_))); (case side4 => exact (Kd.N_reads' HO_5.out).2.1); rintro e w40 ⟨rfl, hb⟩; replace HO_3 := tRb HO_3 hb; replace HO_5 := tNb HO_5 hb; replace HO579 := tVb HO579 hb; replace HO583 := tVb HO583 hb; replace HB := tBs HB hb; (try clear hb); (try clear hb2); (try clear hk); (try clear hi); obtain ⟨Ao41, co41, eo41⟩ := Kd.V_slice HO583.out; subst eo41) | (go_at_call 20; (with_reducible refine (impl_GroupsLeft.calls kj5 _ _ t581 t570 _ _ t571 t586 _ ?side1 ?side2 ?side3 ?side4 A21.out).mono ?_); (case side1 => repeat (first | exact (Kd.V_reads' HO583.out).2.2 | (with_reducible refine Kd.C_alloc ?_ _) | (with_reducible refine Kd.C_drewN ?_ _) | (with_reducible refine Kd.C_drew ?_))); (case side2 => exact (Kd.V_reads' HO583.out).2.1); (case side3 => repeat (first | exact (Kd.N_reads' HO_5.out).2.2 | (with_reducible refine Kd.C_alloc ?_ _) | (with_reducible refine Kd.C_drewN ?_ _) | (with_reducible refine Kd.C_drew ?_))); (case side4 => exact (Kd.N_reads' HO_5.out).2.1); rintro e w42 ⟨rfl, hb⟩; replace HO_3 := tRb HO_3 hb; replace HO_5 := tNb HO_5 hb; replace HO579 := tVb HO579 hb; replace HO583 := tVb HO583 hb; replace HB := tBs HB hb; (try clear hb); (try clear hb2); (try clear hk); (try clear hi)) | (go_at_call 23; (with_reducible refine (laws_allOf.calls kj5 (fun k_ => some k_ ≠ (.slice Ao8 t567.length co8 : Value).ownBlock) _ _ t571 t587 _ ?side1 A22.out).mono ?_); (case side1 => exact Kd.N_V (HO_5.out)); rintro e w43 ⟨v588, rfl, ho0, hb⟩; have u_v588 := tsv Try.prog v588 ho0; replace HO_5 := tNe HO_5 ho0 hb; replace HO579 := tVe HO579 ho0 hb; replace HO583 := tVe HO583 ho0 hb; have HO589 := Aside0.mk (Kd.N_lower (Kd.N_mono (ok' := fun k_ => some k_ ≠ (.slice Ao8 t567.length co8 : Value).ownBlock) ho0 (fun k_ hk_ => Or.elim hk_ (fun hs_ => hs_) (fun hn_ => (Kd.fresh' (Kd.R_lt (tR HO_3.out)) k_ hn_)))) (below_size zb)); replace HO_3 := tRb HO_3 hb; replace HB := tBs HB hb; (try clear hb); (try clear hb2); (try clear hk); (try clear hi); (try clear ho0); obtain ⟨Ao44, co44, eo44⟩ := Kd.N_slice HO589.out; subst eo44))
         all_goals go_ret
         all_goals exact ⟨by first | rfl | (simp [errW_none, errW_some] <;> rfl) | (simp [*, errW_none, errW_some] <;> rfl), zb⟩
       ·rw [if_neg c20] at H
        have c20b0 : (t585 == 0) = false := beq_eq_false_iff_ne.mpr c20
        have c20b1 : (t585 != 0) = true := bne_iff_ne.mpr c20
        obtain rfl := Option.some.inj H
        go_wp2_with (first | ((with_reducible refine gate_callee (f := 22) rfl ?_); refine goesL_ (some 43) rfl rfl Try.func22 (by kernel_rfl) rfl #[.slice Ao9 t571.length co9] rfl tq ?_; (with_reducible refine (impl_ReadEnd.calls kj5 _ _ t571 t576 _ ?side1 ?side2 A14.out).mono ?_); (case side1 => repeat (first | exact (Kd.N_reads' HO_5.out).2.2 | (with_reducible refine Kd.C_alloc ?_ _) | (with_reducible refine Kd.C_drewN ?_ _) | (with_reducible refine Kd.C_drew ?_))); (case side2 => exact (Kd.N_reads' HO_5.out).2.1); rintro e w45 ⟨rfl, hb⟩; refine ⟨_, rfl, ?_⟩; replace HO_3 := tRb HO_3 hb; replace HO_5 := tNb HO_5 hb; replace HB := tBs HB hb; (try clear hb); (try clear hb2); (try clear hk); (try clear hi)) | ((with_reducible refine gate_callee (f := 8) rfl ?_); refine goesL_ (some 45) rfl rfl Try.func8 (by kernel_rfl) rfl #[.slice Ao8 t567.length co8, .agg #[.string t570, .int .i64 t576]] rfl tq ?_; (with_reducible refine (impl_GroupsPut.calls kj5 _ _ t567 t570 t576 t577 true _ ?side1 ?side2 A15.out).mono ?_); (case side1 => repeat (first | exact (Kd.R_reads' HO_3.out).2.2 | (with_reducible refine Kd.C_alloc ?_ _) | (with_reducible refine Kd.C_drewN ?_ _) | (with_reducible refine Kd.C_drew ?_))); (case side2 => exact (Kd.R_reads' HO_3.out).2.1); rintro e w46 ⟨v578, rfl, ho0, hb⟩; have u_v578 := tsv Try.prog v578 ho0; refine ⟨_, rfl, ?_⟩; have HO579 := Aside0.mk (Kd.V_lower (Kd.V_mono (ok' := fun k_ => some k_ ≠ (.slice Ao8 t567.length co8 : Value).ownBlock ∧ some k_ ≠ (.slice Ao9 t571.length co9 : Value).ownBlock) ho0 (fun k_ hk_ => ⟨(Kd.fresh' (Kd.R_lt (tR HO_3.out)) k_ hk_), (tfr HO_5 k_ hk_)⟩)) (below_size zb)); replace HO_3 := tRb HO_3 hb; replace HO_5 := tNb HO_5 hb; replace HB := tBs HB hb; (try clear hb); (try clear hb2); (try clear hk); (try clear hi); (try clear ho0)) | ((with_reducible refine gate_callee (f := 8) rfl ?_); refine goesL_ (some 52) rfl rfl Try.func8 (by kernel_rfl) rfl #[.slice Ao8 t567.length co8, .agg #[.string t570, .int .i64 0]] rfl tq ?_; (with_reducible refine (impl_GroupsPut.calls kj5 _ _ t567 t570 0 t581 true _ ?side1 ?side2 A16.out).mono ?_); (case side1 => repeat (first | exact (Kd.R_reads' HO_3.out).2.2 | (with_reducible refine Kd.C_alloc ?_ _) | (with_reducible refine Kd.C_drewN ?_ _) | (with_reducible refine Kd.C_drew ?_))); (case side2 => exact (Kd.R_reads' HO_3.out).2.1); rintro e w47 ⟨v582, rfl, ho0, hb⟩; have u_v582 := tsv Try.prog v582 ho0; refine ⟨_, rfl, ?_⟩; replace HO579 := tVb HO579 hb; have HO583 := Aside0.mk (Kd.V_lower (Kd.V_mono (ok' := fun k_ => some k_ ≠ (.slice Ao8 t567.length co8 : Value).ownBlock ∧ some k_ ≠ (.slice Ao9 t571.length co9 : Value).ownBlock) ho0 (fun k_ hk_ => ⟨(Kd.fresh' (Kd.R_lt (tR HO_3.out)) k_ hk_), (tfr HO_5 k_ hk_)⟩)) (below_size zb)); replace HO_3 := tRb HO_3 hb; replace HO_5 := tNb HO_5 hb; replace HB := tBs HB hb; (try clear hb); (try clear hb2); (try clear hk); (try clear hi); (try clear ho0); obtain ⟨Ao48, co48, eo48⟩ := Kd.V_slice HO579.out; subst eo48) | (go_at_call 20; (with_reducible refine (impl_GroupsLeft.calls kj5 _ _ t577 t570 _ _ t571 t585 _ ?side1 ?side2 ?side3 ?side4 A19.out).mono ?_); (case side1 => repeat (first | exact (Kd.V_reads' HO579.out).2.2 | (with_reducible refine Kd.C_alloc ?_ _) | (with_reducible refine Kd.C_drewN ?_ _) | (with_reducible refine Kd.C_drew ?_))); (case side2 => exact (Kd.V_reads' HO579.out).2.1); (case side3 => repeat (first | exact (Kd.N_reads' HO_5.out).2.2 | (with_reducible refine Kd.C_alloc ?_ _) | (with_reducible refine Kd.C_drewN ?_ _) | (with_reducible refine Kd.C_drew ?_))); (case side4 => exact (Kd.N_reads' HO_5.out).2.1); rintro e w49 ⟨rfl, hb⟩; replace HO_3 := tRb HO_3 hb; replace HO_5 := tNb HO_5 hb; replace HO579 := tVb HO579 hb; replace HO583 := tVb HO583 hb; replace HB := tBs HB hb; (try clear hb); (try clear hb2); (try clear hk); (try clear hi)))
        all_goals go_ret
        all_goals exact ⟨by first | rfl | (simp [errW_none, errW_some] <;> rfl) | (simp [*, errW_none, errW_some] <;> rfl), zb⟩
      ·replace c18 := Bool.eq_false_iff.mpr c18
       subst c18
       rw [if_neg (show ¬ (false = true) by decide)] at H
       obtain rfl := Option.some.inj H
       go_wp2_with (first | ((with_reducible refine gate_callee (f := 22) rfl ?_); refine goesL_ (some 43) rfl rfl Try.func22 (by kernel_rfl) rfl #[.slice Ao9 t571.length co9] rfl tq ?_; (with_reducible refine (impl_ReadEnd.calls kj5 _ _ t571 t576 _ ?side1 ?side2 A14.out).mono ?_); (case side1 => repeat (first | exact (Kd.N_reads' HO_5.out).2.2 | (with_reducible refine Kd.C_alloc ?_ _) | (with_reducible refine Kd.C_drewN ?_ _) | (with_reducible refine Kd.C_drew ?_))); (case side2 => exact (Kd.N_reads' HO_5.out).2.1); rintro e w50 ⟨rfl, hb⟩; refine ⟨_, rfl, ?_⟩; replace HO_3 := tRb HO_3 hb; replace HO_5 := tNb HO_5 hb; replace HB := tBs HB hb; (try clear hb); (try clear hb2); (try clear hk); (try clear hi)) | ((with_reducible refine gate_callee (f := 8) rfl ?_); refine goesL_ (some 45) rfl rfl Try.func8 (by kernel_rfl) rfl #[.slice Ao8 t567.length co8, .agg #[.string t570, .int .i64 t576]] rfl tq ?_; (with_reducible refine (impl_GroupsPut.calls kj5 _ _ t567 t570 t576 t577 true _ ?side1 ?side2 A15.out).mono ?_); (case side1 => repeat (first | exact (Kd.R_reads' HO_3.out).2.2 | (with_reducible refine Kd.C_alloc ?_ _) | (with_reducible refine Kd.C_drewN ?_ _) | (with_reducible refine Kd.C_drew ?_))); (case side2 => exact (Kd.R_reads' HO_3.out).2.1); rintro e w51 ⟨v578, rfl, ho0, hb⟩; have u_v578 := tsv Try.prog v578 ho0; refine ⟨_, rfl, ?_⟩; have HO579 := Aside0.mk (Kd.V_lower (Kd.V_mono (ok' := fun k_ => some k_ ≠ (.slice Ao8 t567.length co8 : Value).ownBlock ∧ some k_ ≠ (.slice Ao9 t571.length co9 : Value).ownBlock) ho0 (fun k_ hk_ => ⟨(Kd.fresh' (Kd.R_lt (tR HO_3.out)) k_ hk_), (tfr HO_5 k_ hk_)⟩)) (below_size zb)); replace HO_3 := tRb HO_3 hb; replace HO_5 := tNb HO_5 hb; replace HB := tBs HB hb; (try clear hb); (try clear hb2); (try clear hk); (try clear hi); (try clear ho0)) | ((with_reducible refine gate_callee (f := 8) rfl ?_); refine goesL_ (some 52) rfl rfl Try.func8 (by kernel_rfl) rfl #[.slice Ao8 t567.length co8, .agg #[.string t570, .int .i64 0]] rfl tq ?_; (with_reducible refine (impl_GroupsPut.calls kj5 _ _ t567 t570 0 t581 false _ ?side1 ?side2 A16.out).mono ?_); (case side1 => repeat (first | exact (Kd.R_reads' HO_3.out).2.2 | (with_reducible refine Kd.C_alloc ?_ _) | (with_reducible refine Kd.C_drewN ?_ _) | (with_reducible refine Kd.C_drew ?_))); (case side2 => exact (Kd.R_reads' HO_3.out).2.1); rintro e w52 ⟨v582, rfl, ho0, hb⟩; have u_v582 := tsv Try.prog v582 ho0; refine ⟨_, rfl, ?_⟩; replace HO579 := tVb HO579 hb; have HO583 := Aside0.mk (Kd.V_lower (Kd.V_mono (ok' := fun k_ => some k_ ≠ (.slice Ao8 t567.length co8 : Value).ownBlock ∧ some k_ ≠ (.slice Ao9 t571.length co9 : Value).ownBlock) ho0 (fun k_ hk_ => ⟨(Kd.fresh' (Kd.R_lt (tR HO_3.out)) k_ hk_), (tfr HO_5 k_ hk_)⟩)) (below_size zb)); replace HO_3 := tRb HO_3 hb; replace HO_5 := tNb HO_5 hb; replace HB := tBs HB hb; (try clear hb); (try clear hb2); (try clear hk); (try clear hi); (try clear ho0)))
       all_goals go_ret
       all_goals exact ⟨by first | rfl | (simp [errW_none, errW_some] <;> rfl) | (simp [*, errW_none, errW_some] <;> rfl), zb⟩
     ·replace c17 := Bool.eq_false_iff.mpr c17
      subst c17
      rw [if_neg (show ¬ (false = true) by decide)] at H
      obtain rfl := Option.some.inj H
      go_wp2_with (first | ((with_reducible refine gate_callee (f := 22) rfl ?_); refine goesL_ (some 43) rfl rfl Try.func22 (by kernel_rfl) rfl #[.slice Ao9 t571.length co9] rfl tq ?_; (with_reducible refine (impl_ReadEnd.calls kj5 _ _ t571 t576 _ ?side1 ?side2 A14.out).mono ?_); (case side1 => repeat (first | exact (Kd.N_reads' HO_5.out).2.2 | (with_reducible refine Kd.C_alloc ?_ _) | (with_reducible refine Kd.C_drewN ?_ _) | (with_reducible refine Kd.C_drew ?_))); (case side2 => exact (Kd.N_reads' HO_5.out).2.1); rintro e w53 ⟨rfl, hb⟩; refine ⟨_, rfl, ?_⟩; replace HO_3 := tRb HO_3 hb; replace HO_5 := tNb HO_5 hb; replace HB := tBs HB hb; (try clear hb); (try clear hb2); (try clear hk); (try clear hi)) | ((with_reducible refine gate_callee (f := 8) rfl ?_); refine goesL_ (some 45) rfl rfl Try.func8 (by kernel_rfl) rfl #[.slice Ao8 t567.length co8, .agg #[.string t570, .int .i64 t576]] rfl tq ?_; (with_reducible refine (impl_GroupsPut.calls kj5 _ _ t567 t570 t576 t577 false _ ?side1 ?side2 A15.out).mono ?_); (case side1 => repeat (first | exact (Kd.R_reads' HO_3.out).2.2 | (with_reducible refine Kd.C_alloc ?_ _) | (with_reducible refine Kd.C_drewN ?_ _) | (with_reducible refine Kd.C_drew ?_))); (case side2 => exact (Kd.R_reads' HO_3.out).2.1); rintro e w54 ⟨v578, rfl, ho0, hb⟩; have u_v578 := tsv Try.prog v578 ho0; refine ⟨_, rfl, ?_⟩; have HO579 := Aside0.mk (Kd.V_lower (Kd.V_mono (ok' := fun k_ => some k_ ≠ (.slice Ao8 t567.length co8 : Value).ownBlock ∧ some k_ ≠ (.slice Ao9 t571.length co9 : Value).ownBlock) ho0 (fun k_ hk_ => ⟨(Kd.fresh' (Kd.R_lt (tR HO_3.out)) k_ hk_), (tfr HO_5 k_ hk_)⟩)) (below_size zb)); replace HO_3 := tRb HO_3 hb; replace HO_5 := tNb HO_5 hb; replace HB := tBs HB hb; (try clear hb); (try clear hb2); (try clear hk); (try clear hi); (try clear ho0)) | ((with_reducible refine gate_callee (f := 8) rfl ?_); refine goesL_ (some 52) rfl rfl Try.func8 (by kernel_rfl) rfl #[.slice Ao8 t567.length co8, .agg #[.string t570, .int .i64 0]] rfl tq ?_; (with_reducible refine (impl_GroupsPut.calls kj5 _ _ t567 t570 0 t581 t584 _ ?side1 ?side2 A16.out).mono ?_); (case side1 => repeat (first | exact (Kd.R_reads' HO_3.out).2.2 | (with_reducible refine Kd.C_alloc ?_ _) | (with_reducible refine Kd.C_drewN ?_ _) | (with_reducible refine Kd.C_drew ?_))); (case side2 => exact (Kd.R_reads' HO_3.out).2.1); rintro e w55 ⟨v582, rfl, ho0, hb⟩; have u_v582 := tsv Try.prog v582 ho0; refine ⟨_, rfl, ?_⟩; replace HO579 := tVb HO579 hb; have HO583 := Aside0.mk (Kd.V_lower (Kd.V_mono (ok' := fun k_ => some k_ ≠ (.slice Ao8 t567.length co8 : Value).ownBlock ∧ some k_ ≠ (.slice Ao9 t571.length co9 : Value).ownBlock) ho0 (fun k_ hk_ => ⟨(Kd.fresh' (Kd.R_lt (tR HO_3.out)) k_ hk_), (tfr HO_5 k_ hk_)⟩)) (below_size zb)); replace HO_3 := tRb HO_3 hb; replace HO_5 := tNb HO_5 hb; replace HB := tBs HB hb; (try clear hb); (try clear hb2); (try clear hk); (try clear hi); (try clear ho0)))
      all_goals go_ret
      all_goals exact ⟨by first | rfl | (simp [errW_none, errW_some] <;> rfl) | (simp [*, errW_none, errW_some] <;> rfl), zb⟩

end Go.Proofs.Ytkihdohphddjaaa.G

namespace Go.Proofs.Ytkihdohphddjaaa.Rd
open Go.RowKit Go.Proofs.YtkihdohphddjaaaW.PrintWords
set_option linter.unusedVariables false
section
variable {H : Type} {enc : TypeId × Value → H} {P : Program} {w : World} {base : Nat} {spare : Nat → Bool} {held : Bool}
/-- What a reading of type t gives: a value of the kind, and what is known of it. -/
def Opens (enc : TypeId × Value → H) (P : Program) (w : World) (base : Nat) (spare : Nat → Bool) (held : Bool) {α : Type} (t : TypeId) (d : Kd α) (ok : α → Prop) : Prop :=
  P.cellsOf t = d.sz ∧ ∀ fuel cs x, DataW.trod enc P w base spare held fuel t cs = some x → ∃ v, d.K w v cs ∧ ok v
theorem Opens.imp_ {α : Type} {t : TypeId} {d : Kd α} {ok ok' : α → Prop} (h : Opens enc P w base spare held t d ok) (hi : ∀ v, ok v → ok' v) : Opens enc P w base spare held t d ok' :=
  ⟨h.1, fun fuel cs x hx => by
    obtain ⟨v, hk, ho⟩ := h.2 fuel cs x hx
    exact ⟨v, hk, hi v ho⟩⟩
theorem opens_int {t : TypeId} {k : IntKind} (ht : P.underlying t = some (.int k)) (hc : P.cellsOf t = 1) : Opens enc P w base spare held t (Kd.int k) (fun n => (Lit.int k n).wf = true) := by
  refine ⟨hc, fun fuel cs x h => ?_⟩
  obtain ⟨n, rfl, _, hw⟩ := DataW.trod_int ht h
  exact ⟨n, rfl, hw⟩
theorem cells_len {base : Nat} {a : Addr} {n : Nat} {cs : List Value} (h : w.cells? base a n = some cs) : cs.length = n ∧ ∀ i u, cs[i]? = some u → w.cell? (a.add i) = some u := by
  unfold World.cells? at h
  split at h
  · rename_i hb
    refine ⟨by simpa using mapM_some_length h, fun i u hu => ?_⟩
    have hi : i < n := by
      have := (List.getElem?_eq_some_iff.1 hu).1
      have h2 : cs.length = n := by simpa using mapM_some_length h
      omega
    have := mapM_some_get h i i (by simp [hi])
    rw [hu] at this
    exact this
  · simp at h
theorem opens_row {α : Type} {t e : TypeId} {d : Kd α} {ok : α → Prop} (ht : P.underlying t = some (.slice e)) (hd : Opens enc P w base spare held e d ok) {fuel : Nat} {cs : List Value} {x : DataW H × List MemPlace}
    (h : DataW.trod enc P w base spare held fuel t cs = some x) : ∃ (A : Option Addr) (c : Nat) (xs : List α), cs = [.slice A xs.length c] ∧ xs.length ≤ c ∧ c ≤ maxLen ∧ d.C w A xs.length xs ∧ ∀ y ∈ xs, ok y := by
  rcases Go.Deep.open_slice ht h with ⟨rfl, _⟩ | ⟨a, len, cap, m, n, D, Pl, rfl, hb, hl, hm, hmm, _, hel⟩
  · exact ⟨none, 0, [], rfl, Nat.le_refl _, by unfold maxLen; omega, ⟨rfl, by simp, fun h0 => absurd h0 (by simp)⟩, by simp⟩
  have hlm : len ≤ m := by rw [hmm]; split <;> omega
  have hx : ∀ i, i < len → ∃ y : α, ok y ∧ ∃ c, c.length = d.sz ∧ d.K w y c ∧ ∀ j u, c[j]? = some u → w.cell? (a.add (i * d.sz + j)) = some u := by
    intro i hi
    obtain ⟨cs', h1, h2⟩ := hel i (by omega)
    obtain ⟨y, hk, ho⟩ := hd.2 _ _ _ h2
    obtain ⟨hl', hc'⟩ := cells_len h1
    refine ⟨y, ho, cs', by rw [hl', hd.1], hk, fun j u hu => ?_⟩
    have := hc' j u hu
    rw [Go.Deep.add_add, hd.1] at this
    exact this
  rcases Nat.eq_zero_or_pos len with h0 | h0
  · subst h0
    exact ⟨some a, cap, [], rfl, Nat.zero_le _, hm, ⟨rfl, by simp, fun h1 => absurd h1 (by simp)⟩, by simp⟩
  obtain ⟨y0, _⟩ := hx 0 h0
  haveI : Inhabited α := ⟨y0⟩
  obtain ⟨g, hg⟩ := Go.Deep.choose_lt hx
  have hlen : ((List.range len).map g).length = len := by simp
  refine ⟨some a, cap, (List.range len).map g, by rw [hlen], by rw [hlen]; exact hl, hm, ⟨rfl, by rw [hlen]; unfold maxLen at hm; omega, fun _ => ⟨a, rfl, fun j p hj => ?_⟩⟩, fun y hy => ?_⟩
  · have hj' : j < len := by
      have := (List.getElem?_eq_some_iff.1 hj).1
      omega
    rw [List.getElem?_map, List.getElem?_range hj'] at hj
    simp at hj
    subst hj
    obtain ⟨_, c, hc1, hc2, hc3⟩ := hg j hj'
    exact ⟨c, hc1, hc2, hc3⟩
  · obtain ⟨i, hi, rfl⟩ := List.mem_map.1 hy
    exact (hg i (List.mem_range.1 hi)).1
end
end Go.Proofs.Ytkihdohphddjaaa.Rd

namespace Go.Proofs.Ytkihdohphddjaaa.OFnGroupsLeftEnd
open Go.RowKit Go.Proofs.YtkihdohphddjaaaW.PrintWords Go.Proofs.Ytkihdohphddjaaa.G
set_option linter.unusedVariables false
def Pure : Prop := ∀ (l0 : List Int), l0.length ≤ maxLen → (∀ y ∈ l0, (Lit.int .u8 y).wf = true) → ∃ k, laws_FnGroupsLeftEnd.f k l0 = some true
end Go.Proofs.Ytkihdohphddjaaa.OFnGroupsLeftEnd

namespace Go.Proofs.Ytkihdohphddjaaa.Pu
open Go.RowKit Go.Proofs.YtkihdohphddjaaaW.PrintWords Go.Proofs.YtkihdohphddjaaaW.PrintLast Go.Proofs.Ytkihdohphddjaaa.G
set_option linter.unusedVariables false
set_option linter.unusedSimpArgs false
def low (c : UInt8) : Bool := decide (97 ≤ c.toNat) && decide (c.toNat ≤ 122)
def word (s : ByteArray) (most : Int) : Bool := (decide (1 ≤ s.size) && decide ((s.size : Int) ≤ most)) && s.data.toList.all low
def gOk (g : S25) : Bool := word g.f0 6 && (decide (0 ≤ g.f1) && decide (g.f1 ≤ 100000))
theorem drop_cons_get {α : Type} (l : List α) (i : Nat) (h : i < l.length) : l.drop i = l[i] :: l.drop (i + 1) := by simp
theorem bt_low (s : ByteArray) (i : Nat) (h : i < s.size) : low (s.data.toList[i]'(by simpa using h)) = (decide (¬ bt s (i : Int) < 97) && decide (¬ bt s (i : Int) > 122)) := by
  rw [bt_get s i h]
  unfold low
  congr 1
  · simp only [decide_eq_decide]; omega
  · simp only [decide_eq_decide]; omega
theorem letters_loop (s : ByteArray) (hs : s.size ≤ 9223372036854775807) : ∀ d i, s.size - i = d → Ev (fun k => impl_letters.l0 k s (s.size : Int) (i : Int)) ((s.data.toList.drop i).all low) := by
  intro d
  induction d with
  | zero =>
    intro i hi
    refine Ev.step (fun k => by rw [impl_letters.l0]) ?_
    rw [List.drop_of_length_le (by rw [data_len]; omega)]
    simp only [if_neg (show ¬ ((i : Int) < (s.size : Int)) by omega)]
    exact Ev.now _
  | succ d ih =>
    intro i hi
    have hlt : i < s.size := by omega
    refine Ev.step (fun k => by rw [impl_letters.l0]) ?_
    simp only [if_pos (show ((i : Int) < (s.size : Int)) by omega), if_pos (show (0 : Int) ≤ (i : Int) by omega)]
    rw [drop_cons_get _ i (by rw [data_len]; exact hlt), List.all_cons, bt_low s i hlt]
    by_cases h1 : bt s (i : Int) < 97
    · simp only [if_pos h1, h1]
      exact Ev.now _
    · by_cases h2 : bt s (i : Int) > 122
      · simp only [if_neg h1, if_pos h2, h1, h2]
        exact Ev.now _
      · simp only [if_neg h1, if_neg h2, w64 (a := (i : Int) + 1) (by omega) (by omega)]
        have := ih (i + 1) (by omega)
        simpa [h1, h2] using this
theorem letters_ev (s : ByteArray) (most : Int) (hs : s.size ≤ 9223372036854775807) : Ev (fun k => impl_letters.f k s most) (word s most) := by
  unfold impl_letters.f word
  by_cases h0 : (s.size : Int) < 1
  · simp only [if_pos h0]
    refine Ev.step (fun k => by rw [impl_letters.j0]) ?_
    rw [show decide (1 ≤ s.size) = false from decide_eq_false (by omega)]
    exact Ev.now _
  · simp only [if_neg h0]
    refine Ev.step (fun k => by rw [impl_letters.j0]) ?_
    rw [show decide (1 ≤ s.size) = true from decide_eq_true (by omega)]
    by_cases h1 : (s.size : Int) > most
    · simp only [h1, decide_true, if_true]
      rw [show decide ((s.size : Int) ≤ most) = false from decide_eq_false (by omega)]
      exact Ev.now _
    · simp only [h1, decide_false]
      rw [show decide ((s.size : Int) ≤ most) = true from decide_eq_true (by omega)]
      have := letters_loop s hs s.size 0 (by omega)
      simpa using this
theorem groupValid_ev (g : S25) (hs : g.f0.size ≤ 9223372036854775807) : Ev (fun k => impl_groupValid.f k g.f0 g.f1) (gOk g) := by
  unfold impl_groupValid.f gOk
  refine Ev.bind (letters_ev _ _ hs) ?_
  cases word g.f0 6
  · exact Ev.now _
  · simp only [if_true]
    unfold impl_within.f
    by_cases h : g.f1 ≥ 0
    · simp only [if_pos h, Option.bind_some]
      rw [show decide (0 ≤ g.f1) = true from decide_eq_true h]
      exact Ev.now _
    · simp only [if_neg h, Option.bind_some]
      rw [show decide (0 ≤ g.f1) = false from decide_eq_false h]
      exact Ev.now _
theorem l6In_some (a b c : Int) : spec_l6In.f a b c = some (decide (b ≤ a) && decide (a ≤ c)) := by
  unfold spec_l6In.f
  by_cases h : a ≥ b
  · rw [if_pos h, show decide (b ≤ a) = true from decide_eq_true h]; rfl
  · rw [if_neg h, show decide (b ≤ a) = false from decide_eq_false h]; rfl
theorem group_loop (g : S25) (hs : g.f0.size ≤ 9223372036854775807) : ∀ d i, g.f0.size - i = d → Ev (fun k => spec_l32Group.l0 k (i : Int) g.f0 g.f1) ((g.f0.data.toList.drop i).all low && ((decide (1 ≤ g.f0.size) && decide ((g.f0.size : Int) ≤ 6)) && (decide (0 ≤ g.f1) && decide (g.f1 ≤ 100000)))) := by
  intro d
  induction d with
  | zero =>
    intro i hi
    refine Ev.step (fun k => by rw [spec_l32Group.l0]) ?_
    rw [List.drop_of_length_le (by rw [data_len]; omega)]
    simp only [if_neg (show ¬ ((i : Int) < (g.f0.size : Int)) by omega), l6In_some, Option.bind_some]
    rw [show decide ((1 : Int) ≤ (g.f0.size : Int)) = decide (1 ≤ g.f0.size) from decide_eq_decide.2 (by omega)]
    cases (decide (1 ≤ g.f0.size) && decide ((g.f0.size : Int) ≤ 6))
    · exact Ev.now _
    · exact Ev.now _
  | succ d ih =>
    intro i hi
    have hlt : i < g.f0.size := by omega
    refine Ev.step (fun k => by rw [spec_l32Group.l0]) ?_
    simp only [if_pos (show ((i : Int) < (g.f0.size : Int)) by omega), if_pos (show (0 : Int) ≤ (i : Int) by omega)]
    rw [drop_cons_get _ i (by rw [data_len]; exact hlt), List.all_cons, bt_low g.f0 i hlt]
    by_cases h1 : bt g.f0 (i : Int) < 97
    · simp only [if_pos h1, h1]
      exact Ev.now _
    · by_cases h2 : bt g.f0 (i : Int) > 122
      · simp only [if_neg h1, if_pos h2, h1, h2]
        exact Ev.now _
      · simp only [if_neg h1, if_neg h2, w64 (a := (i : Int) + 1) (by omega) (by omega)]
        have := ih (i + 1) (by omega)
        simpa [h1, h2] using this
theorem l32Group_ev (g : S25) (hs : g.f0.size ≤ 9223372036854775807) : Ev (fun k => spec_l32Group.f k g.f0 g.f1) (gOk g) := by
  have := group_loop g hs g.f0.size 0 (by omega)
  unfold spec_l32Group.f gOk word
  rw [List.drop_zero] at this
  have e : ∀ a b c : Bool, (a && (b && c)) = ((b && a) && c) := by decide
  rw [e] at this
  exact this
/-- Valid from place i on, each behind the one ahead of it. -/
def gsFrom (prev : Option S25) : List S25 → Bool
  | [] => true
  | g :: l => gOk g && ((match prev with | none => true | some p => Op.bytesLess p.f0.toList g.f0.toList) && gsFrom (some g) l)
def gsOk (l : List S25) : Bool := gsFrom none l && decide (l.length ≤ 8)
theorem rd_nat (l : List S25) (i : Nat) (h : i < l.length) : rd_T25 l (i : Int) = l[i] := by
  unfold rd_T25
  simp [h]
def prevOf (l : List S25) (i : Nat) : Option S25 := if i = 0 then none else l[i - 1]?
theorem valid_loop (l : List S25) (hl : l.length ≤ 9223372036854775807) (hs : ∀ g ∈ l, g.f0.size ≤ 9223372036854775807) : ∀ d i, l.length - i = d → Ev (fun k => impl_GroupsValid.l0 k l l (l.length : Int) (i : Int)) (gsFrom (prevOf l i) (l.drop i)) := by
  intro d
  induction d with
  | zero =>
    intro i hi
    refine Ev.step (fun k => by rw [impl_GroupsValid.l0]) ?_
    rw [List.drop_of_length_le (by omega)]
    simp only [if_neg (show ¬ ((i : Int) < (l.length : Int)) by omega)]
    exact Ev.now _
  | succ d ih =>
    intro i hi
    have hlt : i < l.length := by omega
    refine Ev.step (fun k => by rw [impl_GroupsValid.l0]) ?_
    simp only [if_pos (show ((i : Int) < (l.length : Int)) by omega), if_pos (show (0 : Int) ≤ (i : Int) by omega)]
    rw [drop_cons_get _ i hlt, rd_nat l i hlt]
    refine Ev.bind (groupValid_ev _ (hs _ (List.getElem_mem _))) ?_
    unfold gsFrom
    have hn := ih (i + 1) (by omega)
    rw [show prevOf l (i + 1) = some l[i] by unfold prevOf; simp [hlt]] at hn
    cases gOk l[i]
    · exact Ev.now _
    · simp only [if_true, Bool.true_and, w64 (a := (i : Int) + 1) (by omega) (by omega)]
      rcases Nat.eq_zero_or_pos i with h0 | h0
      · subst h0
        simp only [if_neg (show ¬ (((0 : Nat) : Int) > 0) by omega)]
        unfold prevOf
        simpa using hn
      · have hp : prevOf l i = some l[i - 1] := by
          unfold prevOf
          rw [if_neg (by omega)]
          simp [show i - 1 < l.length by omega]
        rw [hp]
        simp only [if_pos (show ((i : Int) > 0) by omega), w64 (a := (i : Int) - 1) (by omega) (by omega), if_pos (show (0 : Int) ≤ (i : Int) - 1 by omega), if_pos (show ((i : Int) - 1) < (l.length : Int) by omega)]
        rw [show ((i : Int) - 1) = ((i - 1 : Nat) : Int) by omega, rd_nat l (i - 1) (by omega)]
        cases Op.bytesLess l[i - 1].f0.toList l[i].f0.toList
        · exact Ev.now _
        · simpa using hn
theorem valid_ev (l : List S25) (hl : l.length ≤ 9223372036854775807) (hs : ∀ g ∈ l, g.f0.size ≤ 9223372036854775807) : Ev (fun k => impl_GroupsValid.f k l) (gsOk l) := by
  unfold impl_GroupsValid.f gsOk
  by_cases h : (l.length : Int) > 8
  · simp only [if_pos h]
    rw [show decide (l.length ≤ 8) = false from decide_eq_false (by omega), Bool.and_false]
    exact Ev.now _
  · simp only [if_neg h]
    rw [show decide (l.length ≤ 8) = true from decide_eq_true (by omega), Bool.and_true]
    have := valid_loop l hl hs l.length 0 (by omega)
    simpa [prevOf] using this
theorem svalid_loop (l : List S25) (hl : l.length ≤ 9223372036854775807) (hs : ∀ g ∈ l, g.f0.size ≤ 9223372036854775807) : ∀ d i, l.length - i = d → Ev (fun k => spec_GroupsValid.l0 k l (i : Int)) (gsFrom (prevOf l i) (l.drop i) && decide (l.length ≤ 8)) := by
  intro d
  induction d with
  | zero =>
    intro i hi
    refine Ev.step (fun k => by rw [spec_GroupsValid.l0]) ?_
    rw [List.drop_of_length_le (by omega)]
    simp only [if_neg (show ¬ ((i : Int) < (l.length : Int)) by omega)]
    rw [show decide ((l.length : Int) ≤ 8) = decide (l.length ≤ 8) from decide_eq_decide.2 (by omega)]
    exact Ev.now _
  | succ d ih =>
    intro i hi
    have hlt : i < l.length := by omega
    refine Ev.step (fun k => by rw [spec_GroupsValid.l0]) ?_
    simp only [if_pos (show ((i : Int) < (l.length : Int)) by omega), if_pos (show (0 : Int) ≤ (i : Int) by omega)]
    rw [drop_cons_get _ i hlt, rd_nat l i hlt]
    refine Ev.bind (l32Group_ev _ (hs _ (List.getElem_mem _))) ?_
    unfold gsFrom
    have hn := ih (i + 1) (by omega)
    rw [show prevOf l (i + 1) = some l[i] by unfold prevOf; simp [hlt]] at hn
    cases gOk l[i]
    · exact Ev.now _
    · simp only [if_true, Bool.true_and, w64 (a := (i : Int) + 1) (by omega) (by omega)]
      rcases Nat.eq_zero_or_pos i with h0 | h0
      · subst h0
        simp only [if_neg (show ¬ (((0 : Nat) : Int) > 0) by omega)]
        unfold prevOf
        simpa using hn
      · have hp : prevOf l i = some l[i - 1] := by
          unfold prevOf
          rw [if_neg (by omega)]
          simp [show i - 1 < l.length by omega]
        rw [hp]
        simp only [if_pos (show ((i : Int) > 0) by omega), w64 (a := (i : Int) - 1) (by omega) (by omega), if_pos (show (0 : Int) ≤ (i : Int) - 1 by omega), if_pos (show ((i : Int) - 1) < (l.length : Int) by omega)]
        rw [show ((i : Int) - 1) = ((i - 1 : Nat) : Int) by omega, rd_nat l (i - 1) (by omega)]
        cases Op.bytesLess l[i - 1].f0.toList l[i].f0.toList
        · exact Ev.now _
        · simpa using hn
theorem svalid_ev (l : List S25) (hl : l.length ≤ 9223372036854775807) (hs : ∀ g ∈ l, g.f0.size ≤ 9223372036854775807) : Ev (fun k => spec_GroupsValid.f k l) (gsOk l) := by
  unfold spec_GroupsValid.f gsOk
  have := svalid_loop l hl hs l.length 0 (by omega)
  simpa [prevOf] using this
end Go.Proofs.Ytkihdohphddjaaa.Pu

namespace Go.Proofs.Ytkihdohphddjaaa.Pu
open Go.RowKit Go.Proofs.YtkihdohphddjaaaW.PrintWords Go.Proofs.YtkihdohphddjaaaW.PrintLast Go.Proofs.Ytkihdohphddjaaa.G
set_option linter.unusedVariables false
set_option linter.unusedSimpArgs false
def putG (g : S25) : List S25 → List S25
  | [] => [g]
  | x :: xs => if Op.bytesLess x.f0.toList g.f0.toList = true then x :: putG g xs else g :: (x :: xs).filter (fun y => decide (y.f0.toList ≠ g.f0.toList))
def fin8 (l : List S25) : List S25 × Bool := if l.length > 8 then ([], false) else (l, true)
def gPut (l : List S25) (g : S25) : List S25 × Bool := if (gsOk l && gOk g) = true then fin8 (putG g l) else ([], false)
theorem fin8_if (l : List S25) : (if (l.length : Int) > 8 then (some ((([] : List S25)), false)) else (some (l, true))) = some (fin8 l) := by
  unfold fin8
  by_cases h : l.length > 8
  · rw [if_pos (show (l.length : Int) > 8 by omega), if_pos h]
  · rw [if_neg (show ¬ (l.length : Int) > 8 by omega), if_neg h]
theorem put_done (l : List S25) (g : S25) (hl : l.length ≤ 1048576) : ∀ d i (out : List S25), l.length - i = d → out.length ≤ i + 1 →
    Ev (fun k => spec_GroupsPut.l0 k l out true (i : Int) g.f0 g.f1) (fin8 (out ++ (l.drop i).filter (fun y => decide (y.f0.toList ≠ g.f0.toList)))) := by
  intro d
  induction d with
  | zero =>
    intro i out hi ho
    refine Ev.step (fun k => by rw [spec_GroupsPut.l0]) ?_
    simp only [if_neg (show ¬ ((i : Int) < (l.length : Int)) by omega), if_true]
    rw [List.drop_of_length_le (by omega)]
    simp only [List.filter_nil, List.append_nil, fin8_if]
    exact Ev.now _
  | succ d ih =>
    intro i out hi ho
    have hlt : i < l.length := by omega
    refine Ev.step (fun k => by rw [spec_GroupsPut.l0]) ?_
    simp only [if_pos (show ((i : Int) < (l.length : Int)) by omega), if_true]
    refine Ev.step (fun k => by rw [spec_GroupsPut.j2]) ?_
    simp only [Bool.false_eq_true, if_false, if_pos (show (0 : Int) ≤ (i : Int) by omega), if_pos (show ((i : Int) < (l.length : Int)) by omega), rd_nat l i hlt, w64 (a := (i : Int) + 1) (by omega) (by omega)]
    rw [drop_cons_get l i hlt, List.filter_cons]
    by_cases h : l[i].f0.toList = g.f0.toList
    · simp only [h, if_true, ne_eq, not_true_eq_false, decide_false, Bool.false_eq_true, if_false]
      exact ih (i + 1) out (by omega) (by omega)
    · simp only [if_neg h, ne_eq, h, not_false_eq_true, decide_true, if_true, if_pos (show out.length < 5864062014805 by omega)]
      have := ih (i + 1) (out ++ [l[i]]) (by omega) (by simp; omega)
      simp only [List.append_assoc, List.cons_append, List.nil_append] at this
      exact this
theorem put_not (l : List S25) (g : S25) (hl : l.length ≤ 1048576) : ∀ d i (out : List S25), l.length - i = d → i ≤ l.length → out.length ≤ i →
    Ev (fun k => spec_GroupsPut.l0 k l out false (i : Int) g.f0 g.f1) (fin8 (out ++ putG g (l.drop i))) := by
  intro d
  induction d with
  | zero =>
    intro i out hi hle ho
    refine Ev.step (fun k => by rw [spec_GroupsPut.l0]) ?_
    simp only [if_neg (show ¬ ((i : Int) < (l.length : Int)) by omega), Bool.false_eq_true, if_false]
    rw [List.drop_of_length_le (by omega)]
    have hlim : out.length < 5864062014805 := by omega
    simp only [if_pos hlim, Option.bind_some, fin8_if, putG]
    exact Ev.now _
  | succ d ih =>
    intro i out hi hle ho
    have hlt : i < l.length := by omega
    refine Ev.step (fun k => by rw [spec_GroupsPut.l0]) ?_
    simp only [if_pos (show ((i : Int) < (l.length : Int)) by omega), Bool.false_eq_true, if_false, if_pos (show (0 : Int) ≤ (i : Int) by omega), rd_nat l i hlt]
    refine Ev.step (fun k => by rw [spec_GroupsPut.j2]) ?_
    rw [drop_cons_get l i hlt]
    simp only [if_pos (show (0 : Int) ≤ (i : Int) by omega), if_pos (show ((i : Int) < (l.length : Int)) by omega), rd_nat l i hlt, w64 (a := (i : Int) + 1) (by omega) (by omega), putG]
    by_cases h : Op.bytesLess l[i].f0.toList g.f0.toList = true
    · have hne : ¬ l[i].f0.toList = g.f0.toList := by
        intro e
        rw [e, less_irrefl] at h
        exact absurd h (by simp)
      simp only [h, Bool.not_true, Bool.false_eq_true, if_false, if_neg hne, if_true, if_pos (show out.length < 5864062014805 by omega)]
      have := ih (i + 1) (out ++ [l[i]]) (by omega) (by omega) (by simp; omega)
      simp only [List.append_assoc, List.cons_append, List.nil_append] at this
      exact this
    · simp only [h, Bool.not_false, if_true, if_false, if_pos (show out.length < 5864062014805 by omega), Option.bind_some, Bool.false_eq_true]
      rw [List.filter_cons]
      by_cases he : l[i].f0.toList = g.f0.toList
      · simp only [he, if_true, ne_eq, not_true_eq_false, decide_false, Bool.false_eq_true, if_false]
        have := put_done l g hl (l.length - (i + 1)) (i + 1) (out ++ [g]) rfl (by simp; omega)
        simp only [List.append_assoc, List.cons_append, List.nil_append, ne_eq] at this
        exact this
      · simp only [ne_eq, he, if_false, not_false_eq_true, decide_true, if_true, if_pos (show (out ++ [g]).length < 5864062014805 by simp; omega)]
        have := put_done l g hl (l.length - (i + 1)) (i + 1) (out ++ [g] ++ [l[i]]) rfl (by simp; omega)
        have e : ∀ F : List S25, (out ++ [g] ++ [l[i]]) ++ F = out ++ (g :: l[i] :: F) := by intro F; simp
        rw [e] at this
        simp only [ne_eq] at this
        exact this
theorem gPut_ev (l : List S25) (g : S25) (hl : l.length ≤ 1048576) (hs : ∀ x ∈ l, x.f0.size ≤ 9223372036854775807) (hg : g.f0.size ≤ 9223372036854775807) :
    Ev (fun k => spec_GroupsPut.f k l g.f0 g.f1) (gPut l g) := by
  unfold spec_GroupsPut.f gPut
  refine Ev.bind (svalid_ev l (by omega) hs) ?_
  cases gsOk l
  · simp only [Bool.false_eq_true, if_false, Bool.false_and]
    refine Ev.step (fun k => by rw [spec_GroupsPut.j0]) ?_
    simp only [if_true]
    exact Ev.now _
  · simp only [if_true, Bool.true_and]
    refine Ev.bind (l32Group_ev g hg) ?_
    refine Ev.step (fun k => by rw [spec_GroupsPut.j0]) ?_
    cases gOk g
    · simp only [Bool.not_false, if_true, Bool.false_eq_true, if_false]
      exact Ev.now _
    · simp only [Bool.not_true, Bool.false_eq_true, if_false, if_true]
      have := put_not l g hl l.length 0 [] (by omega) (by omega) (by simp)
      simpa using this
theorem putG_mem (g : S25) : ∀ (l : List S25) x, x ∈ putG g l → x = g ∨ x ∈ l
  | [], x, h => by simp [putG] at h; exact .inl h
  | y :: ys, x, h => by
    unfold putG at h
    split at h
    · rcases List.mem_cons.1 h with rfl | h
      · exact .inr (by simp)
      · rcases putG_mem g ys x h with h | h
        · exact .inl h
        · exact .inr (by simp [h])
    · rcases List.mem_cons.1 h with rfl | h
      · exact .inl rfl
      · exact .inr ((List.mem_filter.1 h).1)
theorem gPut_mem {l : List S25} {g : S25} {x : S25} (h : x ∈ (gPut l g).1) : x = g ∨ x ∈ l := by
  unfold gPut at h
  split at h
  · unfold fin8 at h
    split at h
    · simp at h
    · exact putG_mem g l x h
  · simp at h
theorem gPut_len (l : List S25) (g : S25) : (gPut l g).1.length ≤ 8 := by
  unfold gPut
  split
  · unfold fin8
    split
    · simp
    · rename_i h
      simpa using h
  · simp
end Go.Proofs.Ytkihdohphddjaaa.Pu

namespace Go.Proofs.Ytkihdohphddjaaa.Pu
open Go.RowKit Go.Proofs.YtkihdohphddjaaaW.PrintWords Go.Proofs.YtkihdohphddjaaaW.PrintLast Go.Proofs.Ytkihdohphddjaaa.G
set_option linter.unusedVariables false
set_option linter.unusedSimpArgs false
theorem cmp_lt : ∀ x y : List UInt8, Lib.compareBytes x y < 0 ↔ Op.bytesLess x y = true
  | [], [] => by simp [Lib.compareBytes, Op.bytesLess]
  | [], _ :: _ => by simp [Lib.compareBytes, Op.bytesLess]
  | _ :: _, [] => by simp [Lib.compareBytes, Op.bytesLess]
  | a :: x, b :: y => by
    have ih := cmp_lt x y
    simp only [Lib.compareBytes, Op.bytesLess, Bool.or_eq_true, decide_eq_true_eq, Bool.and_eq_true, beq_iff_eq]
    by_cases h1 : a < b
    · simp [h1]
    · by_cases h2 : b < a
      · have : a ≠ b := fun e => by subst e; exact h1 h2
        simp [h1, h2, this]
      · have : a = b := UInt8.le_antisymm (UInt8.not_lt.1 h2) (UInt8.not_lt.1 h1)
        simp [h1, h2, this, ih]
theorem cmp_eq : ∀ x y : List UInt8, Lib.compareBytes x y = 0 ↔ x = y
  | [], [] => by simp [Lib.compareBytes]
  | [], _ :: _ => by simp [Lib.compareBytes]
  | _ :: _, [] => by simp [Lib.compareBytes]
  | a :: x, b :: y => by
    have ih := cmp_eq x y
    simp only [Lib.compareBytes, List.cons.injEq]
    by_cases h1 : a < b
    · have : a ≠ b := fun e => by subst e; exact absurd h1 (UInt8.lt_irrefl a)
      simp [h1, this]
    · by_cases h2 : b < a
      · have : a ≠ b := fun e => by subst e; exact h1 h2
        simp [h1, h2, this]
      · have : a = b := UInt8.le_antisymm (UInt8.not_lt.1 h2) (UInt8.not_lt.1 h1)
        simp [h1, h2, this, ih]
def nameLt (g x : S25) : Bool := Op.bytesLess x.f0.toList g.f0.toList
def cnt (g : S25) : List S25 → Nat
  | [] => 0
  | x :: l => if nameLt g x = true then cnt g l + 1 else 0
def hit (g : S25) : List S25 → Bool
  | [] => false
  | x :: l => if nameLt g x = true then hit g l else decide (x.f0.toList = g.f0.toList)
theorem cnt_le (g : S25) : ∀ l, cnt g l ≤ l.length
  | [] => Nat.le_refl _
  | x :: l => by
    have := cnt_le g l
    unfold cnt
    split <;> simp <;> omega
theorem cnt_lo (g : S25) : ∀ (l : List S25) (m : Nat) (h : m < l.length), m < cnt g l → nameLt g l[m] = true
  | [], m, h, _ => absurd h (by simp)
  | x :: l, m, h, hm => by
    unfold cnt at hm
    split at hm
    · rename_i hx
      cases m with
      | zero => exact hx
      | succ m => exact cnt_lo g l m (by simpa using h) (by omega)
    · omega
theorem gs_lt : ∀ (l : List S25) (x : S25), gsFrom (some x) l = true → ∀ y ∈ l, Op.bytesLess x.f0.toList y.f0.toList = true
  | [], _, _, y, hy => absurd hy (by simp)
  | z :: l, x, h, y, hy => by
    unfold gsFrom at h
    simp only [Bool.and_eq_true] at h
    rcases List.mem_cons.1 hy with rfl | hy
    · exact h.2.1
    · exact less_trans _ _ _ h.2.1 (gs_lt l z h.2.2 y hy)
theorem gs_tail {p : Option S25} {x : S25} {l : List S25} (h : gsFrom p (x :: l) = true) : gsFrom (some x) l = true := by
  unfold gsFrom at h
  simp only [Bool.and_eq_true] at h
  exact h.2.2
theorem cnt_hi (g : S25) : ∀ (l : List S25) (p : Option S25), gsFrom p l = true → ∀ (m : Nat) (h : m < l.length), cnt g l ≤ m → nameLt g l[m] = false
  | [], _, _, m, h, _ => absurd h (by simp)
  | x :: l, p, hs, m, h, hm => by
    unfold cnt at hm
    split at hm
    · cases m with
      | zero => omega
      | succ m => exact cnt_hi g l (some x) (gs_tail hs) m (by simpa using h) (by omega)
    · rename_i hx
      cases m with
      | zero => simpa using hx
      | succ m =>
        have h1 := gs_lt l x (gs_tail hs) (l[m]'(by simpa using h)) (List.getElem_mem _)
        show Op.bytesLess (l[m]'(by simpa using h)).f0.toList g.f0.toList = false
        cases hb : Op.bytesLess (l[m]'(by simpa using h)).f0.toList g.f0.toList with
        | false => rfl
        | true => exact absurd (less_trans _ _ _ h1 hb) hx
theorem hit_at (g : S25) : ∀ (l : List S25) (h : cnt g l < l.length), hit g l = decide ((l[cnt g l]'h).f0.toList = g.f0.toList)
  | [], h => absurd h (by simp)
  | x :: l, h => by
    by_cases hx : nameLt g x = true
    · have e : cnt g (x :: l) = cnt g l + 1 := by rw [cnt, if_pos hx]
      have h' : cnt g l < l.length := by rw [e] at h; simpa using h
      rw [hit, if_pos hx, hit_at g l h']
      simp only [e, List.getElem_cons_succ]
    · have e : cnt g (x :: l) = 0 := by rw [cnt, if_neg hx]
      rw [hit, if_neg hx]
      simp only [e, List.getElem_cons_zero]
theorem hit_end (g : S25) : ∀ (l : List S25), cnt g l = l.length → hit g l = false
  | [], _ => rfl
  | x :: l, h => by
    unfold cnt at h
    split at h
    · rename_i hx
      rw [hit, if_pos hx]
      exact hit_end g l (by simpa using h)
    · simp at h
theorem put1_some (a : ByteArray) (b : Int) (c : ByteArray) (d : Int) : impl_members_put_1.f a b c d = some (Lib.compareBytes a.toList c.toList) := by
  unfold impl_members_put_1.f strings_Compare.f
  rw [toList_data, toList_data]
  rfl
theorem bs_loop (l : List S25) (g : S25) (hl : l.length ≤ 1048576) (hs : gsFrom none l = true) : ∀ d i j, j - i = d → i ≤ cnt g l → cnt g l ≤ j → j ≤ l.length →
    Ev (fun k => impl_Group_46.l0 k l (l.length : Int) (i : Int) (j : Int) g.f0 g.f1) ((cnt g l : Nat), hit g l) := by
  intro d
  induction d using Nat.strongRecOn with
  | ind d ih =>
    intro i j hd hi hj hjl
    refine Ev.step (fun k => by rw [impl_Group_46.l0]) ?_
    rcases Nat.lt_or_ge i j with hij | hij
    · have hh : wrap64 ((IntKind.u64.wrap (wrap64 ((i : Int) + (j : Int)))) / 2) = (((i + j) / 2 : Nat) : Int) := by
        rw [w64 (a := (i : Int) + (j : Int)) (by omega) (by omega)]
        have e : IntKind.u64.wrap ((i : Int) + (j : Int)) = (i : Int) + (j : Int) := by
          simp only [IntKind.wrap, IntKind.bits, IntKind.signed]
          first | omega | (simp; omega)
        rw [e, w64 (by omega) (by omega)]
        omega
      obtain ⟨h, hhe⟩ : ∃ h, h = (i + j) / 2 := ⟨_, rfl⟩
      rw [← hhe] at hh
      have hlt : h < l.length := by omega
      simp only [if_pos (show (i : Int) < (j : Int) by omega), hh, if_pos (show (0 : Int) ≤ (h : Int) by omega), if_pos (show (h : Int) < (l.length : Int) by omega), rd_nat l h hlt, put1_some, Option.bind_some, w64 (a := (h : Int) + 1) (by omega) (by omega)]
      by_cases hc : Lib.compareBytes l[h].f0.toList g.f0.toList < 0
      · simp only [if_pos hc]
        have hn : nameLt g l[h] = true := (cmp_lt _ _).1 hc
        have hcl : h < cnt g l := by
          rcases Nat.lt_or_ge h (cnt g l) with h9 | h9
          · exact h9
          · rw [cnt_hi g l none hs h hlt h9] at hn
            exact absurd hn (by simp)
        exact ih (j - (h + 1)) (by omega) (h + 1) j rfl (by omega) hj hjl
      · simp only [if_neg hc]
        have hcl : cnt g l ≤ h := by
          rcases Nat.lt_or_ge h (cnt g l) with h9 | h9
          · exact absurd ((cmp_lt _ _).2 (cnt_lo g l h hlt h9)) hc
          · exact h9
        exact ih (h - i) (by omega) i h rfl hi hcl (by omega)
    · obtain rfl : i = cnt g l := by omega
      simp only [if_neg (show ¬ ((cnt g l : Nat) : Int) < (j : Int) by omega)]
      rcases Nat.lt_or_ge (cnt g l) l.length with hlt | hge
      · simp only [if_pos (show ((cnt g l : Nat) : Int) < (l.length : Int) by omega), if_pos (show (0 : Int) ≤ ((cnt g l : Nat) : Int) by omega), rd_nat l _ hlt, put1_some, Option.bind_some]
        have e : (Lib.compareBytes (l[cnt g l]'hlt).f0.toList g.f0.toList == 0) = hit g l := by
          rw [hit_at g l hlt, Bool.eq_iff_iff, beq_iff_eq, decide_eq_true_eq]
          exact cmp_eq _ _
        rw [e]
        exact Ev.now _
      · simp only [if_neg (show ¬ ((cnt g l : Nat) : Int) < (l.length : Int) by omega)]
        rw [hit_end g l (by have := cnt_le g l; omega)]
        exact Ev.now _
theorem bsG_ev (l : List S25) (g : S25) (hl : l.length ≤ 1048576) (hs : gsFrom none l = true) : Ev (fun k => bsG k l g) ((cnt g l : Nat), hit g l) := by
  unfold bsG impl_Group_46.f
  exact bs_loop l g hl hs l.length 0 l.length (by omega) (by omega) (cnt_le g l) (Nat.le_refl _)
theorem putL_eq (g : S25) : ∀ (l : List S25) (p : Option S25), gsFrom p l = true → putL l g ((cnt g l : Nat) : Int) (hit g l) = putG g l
  | [], _, _ => by simp [putL, hit, cnt, insL, putG]
  | x :: l, p, hs => by
    have ih := putL_eq g l (some x) (gs_tail hs)
    have hlt := gs_lt l x (gs_tail hs)
    by_cases hx : nameLt g x = true
    · rw [cnt, if_pos hx, hit, if_pos hx, putG, if_pos (show Op.bytesLess x.f0.toList g.f0.toList = true from hx), ← ih]
      unfold putL
      cases hit g l
      · simp [insL]
      · simp
    · rw [cnt, if_neg hx, hit, if_neg hx, putG, if_neg (show ¬ Op.bytesLess x.f0.toList g.f0.toList = true from hx)]
      have hne : ∀ y ∈ l, ¬ y.f0.toList = g.f0.toList := by
        intro y hy e
        have := hlt y hy
        rw [e] at this
        exact hx this
      have hf : l.filter (fun y => decide (y.f0.toList ≠ g.f0.toList)) = l := List.filter_eq_self.2 (fun y hy => by simpa using hne y hy)
      rw [List.filter_cons, hf]
      by_cases he : x.f0.toList = g.f0.toList
      · simp [he, putL]
      · simp [he, putL, insL]
theorem putR_fin (l : List S25) : putR l = fin8 l := by
  unfold putR fin8
  rfl
theorem gPutI_ev (l : List S25) (g : S25) (hl : l.length ≤ 1048576) (hs : ∀ x ∈ l, x.f0.size ≤ 9223372036854775807) (hg : g.f0.size ≤ 9223372036854775807) :
    Ev (fun k => impl_GroupsPut.f k l g.f0 g.f1) (gPut l g) := by
  unfold impl_GroupsPut.f gPut
  refine Ev.bind (valid_ev l (by omega) hs) ?_
  cases hv : gsOk l
  · simp only [Bool.false_eq_true, if_false, Bool.false_and]
    exact Ev.now _
  · simp only [if_true, Bool.true_and]
    refine Ev.bind (groupValid_ev g hg) ?_
    cases gOk g
    · simp only [Bool.false_eq_true, if_false]
      exact Ev.now _
    · simp only [if_true]
      have hs' : gsFrom none l = true := by unfold gsOk at hv; simp only [Bool.and_eq_true] at hv; exact hv.1
      refine Ev.bind (bsG_ev l g hl hs') ?_
      have hle := cnt_le g l
      have hh : (!hit g l || decide (((cnt g l : Nat) : Int) < (l.length : Int))) = true := by
        rcases Nat.lt_or_ge (cnt g l) l.length with h | h
        · simp [h]
        · rw [hit_end g l (by omega)]
          rfl
      unfold putAt
      rw [if_pos (by simp only [Bool.and_eq_true, decide_eq_true_eq]; exact ⟨⟨by omega, by omega⟩, hh⟩), putL_eq g l none hs', putR_fin]
      exact Ev.now _
end Go.Proofs.Ytkihdohphddjaaa.Pu

namespace Go.Proofs.Ytkihdohphddjaaa.Pu
open Go.RowKit Go.Proofs.YtkihdohphddjaaaW.PrintWords Go.Proofs.YtkihdohphddjaaaW.PrintLast Go.Proofs.Ytkihdohphddjaaa.G
set_option linter.unusedVariables false
set_option linter.unusedSimpArgs false
theorem xor_i64 (a b : Int) (h0 : 0 ≤ a) (h1 : a < 4611686018427387904) (k0 : 0 ≤ b) (k1 : b < 4611686018427387904) : 0 ≤ bits .xor .i64 a b := by
  obtain ⟨a, rfl⟩ := Int.eq_ofNat_of_zero_le h0
  obtain ⟨b, rfl⟩ := Int.eq_ofNat_of_zero_le k0
  have ha : a < 2 ^ 62 := by omega
  have hb : b < 2 ^ 62 := by omega
  have hx := Nat.xor_lt_two_pow ha hb
  have ha' : a % 2 ^ 64 = a := Nat.mod_eq_of_lt (by omega)
  have hb' : b % 2 ^ 64 = b := Nat.mod_eq_of_lt (by omega)
  show 0 ≤ IntKind.i64.wrap ((BitVec.ofInt 64 (a : Int) ^^^ BitVec.ofInt 64 (b : Int)).toNat : Int)
  rw [BitVec.ofInt_natCast, BitVec.ofInt_natCast, BitVec.toNat_xor, BitVec.toNat_ofNat, BitVec.toNat_ofNat, ha', hb', IntKind.wrap_i64]
  omega
theorem rd_range {b : List Int} (hb : ∀ x ∈ b, 0 ≤ x ∧ x ≤ 255) (i : Int) : 0 ≤ rd b i ∧ rd b i ≤ 255 := by
  unfold rd
  rw [List.getD_eq_getElem?_getD]
  rcases h : b[i.toNat]? with _ | x
  · simp
  · exact hb x (List.mem_of_getElem? h)
theorem mod_range {x n : Int} (h0 : 0 ≤ x) (h1 : 1 ≤ n) : 0 ≤ Int.tmod x n ∧ Int.tmod x n < n := by
  rw [Int.tmod_eq_emod_of_nonneg h0]
  exact ⟨Int.emod_nonneg _ (by omega), Int.emod_lt_of_pos _ (by omega)⟩
/-- A code that is read: bytes, and a place that is no great number. -/
def CodeOk (b : List Int) : Prop := b.length ≤ 2000 ∧ ∀ x ∈ b, 0 ≤ x ∧ x ≤ 255
theorem pick_ends {b : List Int} (hb : CodeOk b) (p n : Int) (h0 : 0 ≤ p) (h1 : p ≤ 1000000000) (hn : n ≤ 4611686018427387904) :
    EndsIn (fun k => spec_l6Rd_pick.f k b p n) (fun r => r.2 = p + 1 ∧ 0 ≤ r.1 ∧ (1 ≤ n → r.1 < n) ∧ (n < 1 → r.1 = 0)) := by
  obtain ⟨hl, hr⟩ := hb
  unfold spec_l6Rd_pick.f
  rw [w64 (a := p + 1) (by omega) (by omega)]
  by_cases hn1 : n < 1
  · simp only [if_pos hn1]
    refine EndsIn.step (fun k => by rw [spec_l6Rd_pick.j0]) ?_
    simp only [if_true]
    exact EndsIn.now _ ⟨rfl, by omega, by omega, fun _ => rfl⟩
  · simp only [if_neg hn1]
    refine EndsIn.step (fun k => by rw [spec_l6Rd_pick.j0]) ?_
    rw [show p + 1 - 1 = p by omega, w64 (a := p) (by omega) (by omega)]
    by_cases hz : (b.length : Int) = 0
    · have : ((b.length : Int) == 0) = true := by simpa using hz
      simp only [this, if_true]
      exact EndsIn.now _ ⟨rfl, by omega, by omega, fun h => by omega⟩
    · have hz' : ((b.length : Int) == 0) = false := by simpa using hz
      simp only [hz', Bool.false_eq_true, if_false]
      by_cases hp : p < (b.length : Int)
      · have hx := rd_range hr p
        simp only [if_pos hp, if_pos h0, if_neg (show ¬ n = 0 by omega)]
        rw [w64 (a := rd b p) (by omega) (by omega)]
        have hm := mod_range (x := rd b p) (n := n) hx.1 (by omega)
        exact EndsIn.now _ ⟨rfl, hm.1, fun _ => hm.2, fun h => by omega⟩
      · have hm1 := mod_range (x := p) (n := (b.length : Int)) h0 (by omega)
        have h7 : wrap64 (wrap64 (p * 7) + 3) = p * 7 + 3 := by
          rw [w64 (a := p * 7) (by omega) (by omega), w64 (by omega) (by omega)]
        have hm2 := mod_range (x := p * 7 + 3) (n := (b.length : Int)) (by omega) (by omega)
        simp only [if_neg hp, if_neg hz, h7, if_pos hm1.1, if_pos hm1.2, if_pos hm2.1, if_pos hm2.2, if_neg (show ¬ n = 0 by omega)]
        have hx1 := rd_range hr (Int.tmod p b.length)
        have hx2 := rd_range hr (Int.tmod (p * 7 + 3) b.length)
        generalize rd b (Int.tmod p b.length) = x1 at hx1 ⊢
        generalize rd b (Int.tmod (p * 7 + 3) b.length) = x2 at hx2 ⊢
        have hd : 0 ≤ Int.tdiv p (b.length : Int) ∧ Int.tdiv p (b.length : Int) ≤ p := by
          rw [Int.tdiv_eq_ediv_of_nonneg h0]
          exact ⟨Int.ediv_nonneg h0 (by omega), Int.ediv_le_self _ h0⟩
        generalize Int.tdiv p (b.length : Int) = q at hd ⊢
        have e1 : wrap64 x1 = x1 := w64 (by omega) (by omega)
        have e2 : wrap64 x2 = x2 := w64 (by omega) (by omega)
        have e3 : wrap64 (x1 * 131) = x1 * 131 := w64 (by omega) (by omega)
        have e4 : wrap64 (x2 * 1117) = x2 * 1117 := w64 (by omega) (by omega)
        have e5 : wrap64 (x1 * 131 + x2 * 1117) = x1 * 131 + x2 * 1117 := w64 (by omega) (by omega)
        have e6 : wrap64 (p * 29) = p * 29 := w64 (by omega) (by omega)
        have e7 : wrap64 (x1 * 131 + x2 * 1117 + p * 29) = x1 * 131 + x2 * 1117 + p * 29 := w64 (by omega) (by omega)
        have e8 : wrap64 q = q := w64 (by omega) (by omega)
        have e9 : wrap64 (q * 53) = q * 53 := w64 (by omega) (by omega)
        have e10 : wrap64 (x1 * 131 + x2 * 1117 + p * 29 + q * 53) = x1 * 131 + x2 * 1117 + p * 29 + q * 53 := w64 (by omega) (by omega)
        simp only [e1, e2, e3, e4, e5, e6, e7, e8, e9, e10]
        have hX : 0 ≤ x1 * 131 + x2 * 1117 + p * 29 + q * 53 ∧ x1 * 131 + x2 * 1117 + p * 29 + q * 53 < 4611686018427387904 := ⟨by omega, by omega⟩
        generalize x1 * 131 + x2 * 1117 + p * 29 + q * 53 = X at hX ⊢
        have e11 : wrap64 (Int.tdiv X 64) = X / 64 := by
          rw [Int.tdiv_eq_ediv_of_nonneg hX.1]
          exact w64 (by omega) (by omega)
        rw [e11]
        have hxx := xor_i64 X (X / 64) hX.1 hX.2 (by omega) (by omega)
        have hm := mod_range (n := n) hxx (by omega)
        exact EndsIn.now _ ⟨rfl, hm.1, fun _ => hm.2, fun h => by omega⟩
end Go.Proofs.Ytkihdohphddjaaa.Pu

namespace Go.Proofs.Ytkihdohphddjaaa.Pu
open Go.RowKit Go.Proofs.YtkihdohphddjaaaW.PrintWords Go.Proofs.YtkihdohphddjaaaW.PrintLast Go.Proofs.Ytkihdohphddjaaa.G
set_option linter.unusedVariables false
set_option linter.unusedSimpArgs false
theorem open_some (l0 : List Int) (hr : ∀ x ∈ l0, 0 ≤ x ∧ x ≤ 255) : ∃ b, spec_l6Open.f l0 = some (b, 0) ∧ CodeOk b := by
  unfold spec_l6Open.f
  by_cases h : (l0.length : Int) > 2000
  · rw [if_pos h, if_pos (by omega)]
    exact ⟨_, rfl, by rw [List.length_take]; omega, fun x hx => hr x (List.mem_of_mem_take hx)⟩
  · rw [if_neg h]
    exact ⟨_, rfl, by omega, hr⟩
end Go.Proofs.Ytkihdohphddjaaa.Pu

namespace Go.Proofs.Ytkihdohphddjaaa.Pu
open Go.RowKit Go.Proofs.YtkihdohphddjaaaW.PrintWords Go.Proofs.YtkihdohphddjaaaW.PrintLast Go.Proofs.Ytkihdohphddjaaa.G
set_option linter.unusedVariables false
set_option linter.unusedSimpArgs false
theorem of_ends {b : List Int} (hb : CodeOk b) (p : Int) (l : List ByteArray) (h0 : 0 ≤ p) (h1 : p ≤ 1000000000) (hl : 1 ≤ l.length) (hl2 : l.length ≤ 1000000) :
    EndsIn (fun k => spec_l6Rd_of.f k b p l) (fun r => r.2 = p + 1 ∧ r.1 ∈ l) := by
  unfold spec_l6Rd_of.f
  refine EndsIn.bind (pick_ends hb p (l.length : Int) h0 h1 (by omega)) fun r hr => ?_
  obtain ⟨h2, h3, h4, _⟩ := hr
  have h5 := h4 (by omega)
  simp only [if_pos h3, if_pos h5]
  refine EndsIn.now _ ⟨h2, ?_⟩
  unfold rdOf
  rw [List.getD_eq_getElem?_getD, List.getElem?_eq_getElem (by omega)]
  exact List.getElem_mem _
/-- What is drawn: at most so many groups, each with a short name and a small number. -/
def DrG (l : List S25) : Prop := l.length ≤ 8 ∧ ∀ g ∈ l, g.f0.size ≤ 7 ∧ 0 ≤ g.f1 ∧ g.f1 ≤ 100
theorem DrG.size {l : List S25} (h : DrG l) : ∀ g ∈ l, g.f0.size ≤ 9223372036854775807 := fun g hg => by have := (h.2 g hg).1; omega
theorem drawG_j {b : List Int} (hb : CodeOk b) (l : List S25) (hl : DrG l) (hl0 : 1 ≤ l.length) (c : Bool) (hc : c = true → 1 ≤ l.length) (p : Int) (h0 : 0 ≤ p) (h1 : p ≤ 900000000) :
    EndsIn (fun k => spec_l92Groups.j1 k l c b p) (fun r => DrG r.1 ∧ p ≤ r.2 ∧ r.2 ≤ p + 10) := by
  refine EndsIn.step (fun k => by rw [spec_l92Groups.j1]) ?_
  cases c
  · simp only [Bool.false_eq_true, if_false]
    exact EndsIn.now _ ⟨hl, by omega, by omega⟩
  · simp only [if_true]
    have hl8 := hl.1
    refine EndsIn.bind (pick_ends hb p (l.length : Int) h0 (by omega) (by omega)) fun r hr => ?_
    obtain ⟨e2, h3, h4, _⟩ := hr
    have h5 := h4 (by omega)
    rw [e2]
    refine EndsIn.bind (of_ends hb (p + 1) _ (by omega) (by omega) (by decide) (by decide)) fun q hq => ?_
    obtain ⟨q2, q1⟩ := hq
    simp only [if_pos h3, if_pos h5]
    refine EndsIn.now _ ⟨⟨by rw [List.length_set]; exact hl8, fun g hg => ?_⟩, by omega, by omega⟩
    rcases List.mem_or_eq_of_mem_set hg with hg | rfl
    · exact hl.2 g hg
    · have hm : rd_T25 l r.1 ∈ l := by
        unfold rd_T25
        rw [List.getD_eq_getElem?_getD, List.getElem?_eq_getElem (by omega)]
        exact List.getElem_mem _
      refine ⟨?_, (hl.2 _ hm).2⟩
      simp only [List.mem_cons, List.not_mem_nil, or_false] at q1
      rcases q1 with q1 | q1 | q1 <;> (show q.1.size ≤ 7; rw [q1]; decide)
theorem drawG_loop {b : List Int} (hb : CodeOk b) (n : Int) (hn : n ≤ 5) : ∀ d (i : Nat) (l : List S25) (p : Int), 5 - i = d → i ≤ 5 → DrG l → 0 ≤ p → p ≤ 100 * (i : Int) + 100 →
    EndsIn (fun k => spec_l92Groups.l0 k l n (i : Int) b p) (fun r => DrG r.1 ∧ p ≤ r.2 ∧ r.2 ≤ 10000) := by
  intro d
  induction d with
  | zero =>
    intro i l p hi hle hl h0 h1
    obtain rfl : i = 5 := by omega
    refine EndsIn.step (fun k => by rw [spec_l92Groups.l0]) ?_
    simp only [if_neg (show ¬ (((5 : Nat) : Int) < n) by omega)]
    by_cases hz : (l.length : Int) > 0
    · simp only [if_pos hz]
      refine EndsIn.bind (pick_ends hb p 24 h0 (by omega) (by omega)) fun r hr => ?_
      rw [hr.1]
      exact (drawG_j hb l hl (by omega) _ (fun _ => by omega) (p + 1) (by omega) (by omega)).mono fun r hr => ⟨hr.1, by omega, by omega⟩
    · simp only [if_neg hz]
      refine EndsIn.step (fun k => by rw [spec_l92Groups.j1]) ?_
      simp only [Bool.false_eq_true, if_false]
      exact EndsIn.now _ ⟨hl, by omega, by omega⟩
  | succ d ih =>
    intro i l p hi hle hl h0 h1
    refine EndsIn.step (fun k => by rw [spec_l92Groups.l0]) ?_
    by_cases hin : (i : Int) < n
    · simp only [if_pos hin]
      refine EndsIn.bind (of_ends hb p _ h0 (by omega) (by decide) (by decide)) fun r hr => ?_
      obtain ⟨r2, r1⟩ := hr
      rw [r2]
      refine EndsIn.bind (pick_ends hb (p + 1) 20 (by omega) (by omega) (by omega)) fun q hq => ?_
      obtain ⟨q2, q3, q4, _⟩ := hq
      have q5 := q4 (by omega)
      have hsz : r.1.size ≤ 7 := by
        simp only [List.mem_cons, List.not_mem_nil, or_false] at r1
        rcases r1 with r1 | r1 | r1 | r1 | r1 | r1 | r1 | r1 <;> (rw [r1]; decide)
      have hev := gPut_ev l ⟨r.1, q.1⟩ (by have := hl.1; omega) hl.size (by show r.1.size ≤ _; omega)
      have hd : DrG (gPut l ⟨r.1, q.1⟩).1 := ⟨gPut_len _ _, fun g hg => by
        rcases gPut_mem hg with rfl | hg
        · exact ⟨hsz, q3, by show q.1 ≤ 100; omega⟩
        · exact hl.2 g hg⟩
      refine EndsIn.bind (P := fun x => x = gPut l ⟨r.1, q.1⟩) ⟨_, hev, rfl⟩ fun x hx => ?_
      subst hx
      rw [q2, w64 (a := (i : Int) + 1) (by omega) (by omega)]
      cases (gPut l ⟨r.1, q.1⟩).2
      · simp only [Bool.false_eq_true, if_false]
        exact (ih (i + 1) l (p + 1 + 1) (by omega) (by omega) hl (by omega) (by omega)).mono fun r hr => ⟨hr.1, by omega, hr.2.2⟩
      · simp only [if_true]
        exact (ih (i + 1) _ (p + 1 + 1) (by omega) (by omega) hd (by omega) (by omega)).mono fun r hr => ⟨hr.1, by omega, hr.2.2⟩
    · simp only [if_neg hin]
      by_cases hz : (l.length : Int) > 0
      · simp only [if_pos hz]
        refine EndsIn.bind (pick_ends hb p 24 h0 (by omega) (by omega)) fun r hr => ?_
        rw [hr.1]
        exact (drawG_j hb l hl (by omega) _ (fun _ => by omega) (p + 1) (by omega) (by omega)).mono fun r hr => ⟨hr.1, by omega, by omega⟩
      · simp only [if_neg hz]
        refine EndsIn.step (fun k => by rw [spec_l92Groups.j1]) ?_
        simp only [Bool.false_eq_true, if_false]
        exact EndsIn.now _ ⟨hl, by omega, by omega⟩
theorem drawGroups_ends {b : List Int} (hb : CodeOk b) : EndsIn (fun k => spec_l92Groups.f k b 0) (fun r => DrG r.1 ∧ 0 ≤ r.2 ∧ r.2 ≤ 10000) := by
  unfold spec_l92Groups.f
  refine EndsIn.bind (pick_ends hb 0 6 (by omega) (by omega) (by omega)) fun r hr => ?_
  obtain ⟨r2, r3, r4, _⟩ := hr
  have r5 := r4 (by omega)
  rw [r2]
  have := drawG_loop hb r.1 (by omega) 5 0 [] (0 + 1) (by omega) (by omega) ⟨by simp, by simp⟩ (by omega) (by omega)
  exact this.mono fun q hq => ⟨hq.1, by omega, hq.2.2⟩
end Go.Proofs.Ytkihdohphddjaaa.Pu

namespace Go.Proofs.Ytkihdohphddjaaa.G
open Go.RowKit Go.Proofs.YtkihdohphddjaaaW.PrintWords Go.Proofs.YtkihdohphddjaaaW.PrintLast Go.Proofs.YtkihdohphddjaaaW.PrintMore
attribute [local go_sem] max2_int min2_int max_two min_two max_three min_three max_four min_four   -- for this text's walks alone
set_option linter.unusedVariables false
set_option linter.unusedSimpArgs false

theorem eqA25 (d : Nat) (w : World) (x0 y0 : ByteArray) (x1 y1 : Int) :
  (Op.equalIn (d + 2) 25 (.agg #[.string x0, .int .i64 x1]) (.agg #[.string y0, .int .i64 y1])).run Try.prog w = .ok (x0.toList == y0.toList && (x1 == y1)) w := by
 refine eqA_of Try.underlying25 (by kernel_rfl) ?_
 refine eqf_cons (by rfl) (by go_simp; rfl) (by go_simp; rfl) (by go_simp) ?_
 exact eqf_last (by rfl) (by go_simp; rfl) (by go_simp; rfl) (by go_simp)
end Go.Proofs.Ytkihdohphddjaaa.G

namespace Go.Proofs.Ytkihdohphddjaaa.Pu
open Go.RowKit Go.Proofs.YtkihdohphddjaaaW.PrintWords Go.Proofs.YtkihdohphddjaaaW.PrintLast Go.Proofs.Ytkihdohphddjaaa.G
set_option linter.unusedVariables false
set_option linter.unusedSimpArgs false
def below (p : Option S25) (g : S25) : Bool := match p with | none => true | some q => Op.bytesLess q.f0.toList g.f0.toList
theorem gsFrom_cons (p : Option S25) (g : S25) (l : List S25) : gsFrom p (g :: l) = (gOk g && (below p g && gsFrom (some g) l)) := by
  cases p <;> rfl
theorem gsFrom_name {x y : S25} (h : x.f0.toList = y.f0.toList) : ∀ l : List S25, gsFrom (some x) l = gsFrom (some y) l
  | [] => rfl
  | z :: l => by rw [gsFrom_cons, gsFrom_cons, below, below, h]
theorem ne_tail {g x : S25} {l : List S25} (hs : gsFrom (some x) l = true) (hx : ¬ nameLt g x = true) : l.filter (fun y => decide (y.f0.toList ≠ g.f0.toList)) = l :=
  List.filter_eq_self.2 (fun y hy => by
    have := gs_lt l x hs y hy
    simp only [ne_eq, decide_eq_true_eq]
    intro e
    rw [e] at this
    exact hx this)
theorem putG_cons_lt {g x : S25} (l : List S25) (hx : nameLt g x = true) : putG g (x :: l) = x :: putG g l := by
  rw [putG, if_pos (show Op.bytesLess x.f0.toList g.f0.toList = true from hx)]
theorem putG_cons_eq {g x : S25} {l : List S25} (hs : gsFrom (some x) l = true) (hx : ¬ nameLt g x = true) (he : x.f0.toList = g.f0.toList) : putG g (x :: l) = g :: l := by
  rw [putG, if_neg (show ¬ Op.bytesLess x.f0.toList g.f0.toList = true from hx), List.filter_cons, ne_tail hs hx]
  simp [he]
theorem putG_cons_gt {g x : S25} {l : List S25} (hs : gsFrom (some x) l = true) (hx : ¬ nameLt g x = true) (he : ¬ x.f0.toList = g.f0.toList) : putG g (x :: l) = g :: x :: l := by
  rw [putG, if_neg (show ¬ Op.bytesLess x.f0.toList g.f0.toList = true from hx), List.filter_cons, ne_tail hs hx]
  simp [he]
theorem gt_of {g x : S25} (hx : ¬ nameLt g x = true) (he : ¬ x.f0.toList = g.f0.toList) : Op.bytesLess g.f0.toList x.f0.toList = true := by
  rcases less_total x.f0.toList g.f0.toList with h | h | h
  · exact absurd h hx
  · exact absurd h he
  · exact h
/-- .. is valid again. -/
theorem putG_ok (g : S25) (hg : gOk g = true) : ∀ (l : List S25) (p : Option S25), gsFrom p l = true → below p g = true → gsFrom p (putG g l) = true
  | [], p, _, hb => by
    show gsFrom p [g] = true
    rw [gsFrom_cons, hg, hb]
    rfl
  | x :: l, p, hs, hb => by
    have ht := gs_tail hs
    rw [gsFrom_cons] at hs
    simp only [Bool.and_eq_true] at hs
    by_cases hx : nameLt g x = true
    · rw [putG_cons_lt l hx, gsFrom_cons, hs.1, hs.2.1, putG_ok g hg l (some x) ht hx]
      rfl
    · by_cases he : x.f0.toList = g.f0.toList
      · rw [putG_cons_eq ht hx he, gsFrom_cons, hg, hb, ← gsFrom_name he, ht]
        rfl
      · rw [putG_cons_gt ht hx he, gsFrom_cons, hg, hb, gsFrom_cons, hs.1, below, gt_of hx he, ht]
        rfl
theorem gsOk_parts {l : List S25} (h : gsOk l = true) : gsFrom none l = true ∧ l.length ≤ 8 := by
  unfold gsOk at h
  simpa using h
theorem gPut_true {l : List S25} {g : S25} (h : (gPut l g).2 = true) : gsOk l = true ∧ gOk g = true ∧ gPut l g = (putG g l, true) ∧ (putG g l).length ≤ 8 := by
  unfold gPut at h ⊢
  by_cases hc : (gsOk l && gOk g) = true
  · rw [if_pos hc] at h ⊢
    unfold fin8 at h ⊢
    by_cases h8 : (putG g l).length > 8
    · rw [if_pos h8] at h
      simp at h
    · rw [if_neg h8]
      simp only [Bool.and_eq_true] at hc
      exact ⟨hc.1, hc.2, rfl, by omega⟩
  · rw [if_neg hc] at h
    simp at h
theorem gPut_ok {l : List S25} {g : S25} (h : (gPut l g).2 = true) : gsOk (gPut l g).1 = true := by
  obtain ⟨h1, h2, h3, h4⟩ := gPut_true h
  rw [h3]
  unfold gsOk
  rw [putG_ok g h2 l none (gsOk_parts h1).1 rfl]
  simpa using h4
theorem gPut_size {l : List S25} {g : S25} (hs : ∀ x ∈ l, x.f0.size ≤ 9223372036854775807) (hg : g.f0.size ≤ 9223372036854775807) : ∀ x ∈ (gPut l g).1, x.f0.size ≤ 9223372036854775807 := fun x hx => by
  rcases gPut_mem hx with rfl | h
  · exact hg
  · exact hs x h
end Go.Proofs.Ytkihdohphddjaaa.Pu

namespace Go.Proofs.Ytkihdohphddjaaa.Pu
open Go.RowKit Go.Proofs.YtkihdohphddjaaaW.PrintWords Go.Proofs.YtkihdohphddjaaaW.PrintLast Go.Proofs.YtkihdohphddjaaaW.PrintMore Go.Proofs.Ytkihdohphddjaaa.G
theorem sBatchValid_ev (b : S75) (_ : RowR b.f5) : Ev (fun k => spec_BatchValid.f k b.f0 b.f1 b.f2 b.f3 b.f4 b.f5) (batOk b) := Ev.now _
end Go.Proofs.Ytkihdohphddjaaa.Pu

namespace Go.Proofs.Ytkihdohphddjaaa.Pu
open Go.RowKit Go.Proofs.YtkihdohphddjaaaW.PrintWords Go.Proofs.YtkihdohphddjaaaW.PrintLast Go.Proofs.YtkihdohphddjaaaW.PrintMore Go.Proofs.Ytkihdohphddjaaa.G
theorem LogValid_ev (l : List S75) (_ : RowB l) : Ev (fun k => impl_LogValid.f k l) (logOk l) := Ev.now _
theorem sLogValid_ev (l : List S75) (_ : RowB l) : Ev (fun k => spec_LogValid.f k l) (logOk l) := Ev.now _
end Go.Proofs.Ytkihdohphddjaaa.Pu

namespace Go.Proofs.Ytkihdohphddjaaa.Pu
open Go.RowKit Go.Proofs.YtkihdohphddjaaaW.PrintWords Go.Proofs.YtkihdohphddjaaaW.PrintLast Go.Proofs.YtkihdohphddjaaaW.PrintMore Go.Proofs.Ytkihdohphddjaaa.G
set_option linter.unusedVariables false
set_option linter.unusedSimpArgs false
theorem part_loop {b : List Int} (hb : CodeOk b) (n : Int) (hn : n ≤ 12) : ∀ d (i : Nat) (l : List Int) (p : Int), 12 - i = d → l.length = i → i ≤ 12 → 0 ≤ p → p ≤ 900000000 + 2 * (i : Int) →
    EndsIn (fun k => spec_l91Part.l0 k l n (i : Int) b p) (fun r => r.2.1.length ≤ 12 ∧ p ≤ r.2.2 ∧ r.2.2 ≤ p + 2 * (12 - (i : Int))) := by
  intro d
  induction d with
  | zero =>
    intro i l p hd hl hi p0 p1
    refine EndsIn.step (fun k => by rw [spec_l91Part.l0]) ?_
    simp only [if_neg (show ¬ (i : Int) < n by omega)]
    exact EndsIn.now _ ⟨by show l.length ≤ 12; omega, by show p ≤ p; omega, by show p ≤ _; omega⟩
  | succ d ih =>
    intro i l p hd hl hi p0 p1
    refine EndsIn.step (fun k => by rw [spec_l91Part.l0]) ?_
    by_cases h : (i : Int) < n
    · simp only [if_pos h]
      refine EndsIn.bind (pick_ends hb p 256 p0 (by omega) (by omega)) fun q hq => ?_
      obtain ⟨q2, q3, q4, _⟩ := hq
      simp only [bindS]
      rw [q2]
      refine EndsIn.bind (pick_ends hb (p + 1) 4 (by omega) (by omega) (by omega)) fun s hs => ?_
      obtain ⟨s2, s3, s4, _⟩ := hs
      have s5 := s4 (by omega)
      rw [s2]
      simp only [if_pos s3, if_pos (show s.1 < (([1, 2, 3, q.1] : List Int).length : Int) by simpa using s5), if_pos (show l.length < 17592186044416 by omega), w64 (a := (i : Int) + 1) (by omega) (by omega)]
      have := ih (i + 1) (l ++ [rd [1, 2, 3, q.1] s.1]) (p + 1 + 1) (by omega) (by rw [List.length_append, hl]; rfl) (by omega) (by omega) (by omega)
      exact this.mono fun r hr => ⟨hr.1, by omega, by omega⟩
    · simp only [if_neg h]
      exact EndsIn.now _ ⟨by show l.length ≤ 12; omega, by show p ≤ p; omega, by show p ≤ _; omega⟩
theorem part_ends {b : List Int} (hb : CodeOk b) (p : Int) (h0 : 0 ≤ p) (h1 : p ≤ 800000000) : EndsIn (fun k => spec_l91Part.f k b p) (fun r => r.2.1.length ≤ 12 ∧ p ≤ r.2.2 ∧ r.2.2 ≤ p + 30) := by
  have st : ∀ (n q : Int), n ≤ 12 → p ≤ q → q ≤ p + 5 → EndsIn (fun k => spec_l91Part.j0 k [] n b q) (fun r => r.2.1.length ≤ 12 ∧ p ≤ r.2.2 ∧ r.2.2 ≤ p + 30) := by
    intro n q hn q0 q1
    refine EndsIn.step (fun k => by rw [spec_l91Part.j0]) ?_
    have := part_loop hb n hn 12 0 [] q (by omega) rfl (by omega) (by omega) (by omega)
    exact this.mono fun r hr => ⟨hr.1, by omega, by omega⟩
  unfold spec_l91Part.f
  refine EndsIn.bind (pick_ends hb p 4 h0 (by omega) (by omega)) fun q hq => ?_
  obtain ⟨q2, q3, q4, _⟩ := hq
  rw [q2]
  by_cases hz : q.1 = 0
  · simp only [if_pos hz]
    exact EndsIn.now _ ⟨by simp, by show p ≤ p + 1; omega, by show p + 1 ≤ p + 30; omega⟩
  · simp only [if_neg hz, bindS]
    refine EndsIn.bind (pick_ends hb (p + 1) 5 (by omega) (by omega) (by omega)) fun s hs => ?_
    obtain ⟨s2, s3, s4, _⟩ := hs
    have s5 := s4 (by omega)
    rw [s2]
    refine EndsIn.bind (pick_ends hb (p + 1 + 1) 12 (by omega) (by omega) (by omega)) fun u hu => ?_
    obtain ⟨u2, u3, u4, _⟩ := hu
    rw [u2]
    by_cases hu0 : u.1 = 0
    · simp only [if_pos hu0]
      exact st _ _ (by omega) (by omega) (by omega)
    · simp only [if_neg hu0]
      exact st _ _ (by omega) (by omega) (by omega)
def Small (r : S78) : Prop := r.f3.length ≤ 12 ∧ r.f5.length ≤ 12
theorem recs_loop {b : List Int} (hb : CodeOk b) (n : Int) (hn : n ≤ 6) : ∀ d (i : Nat) (l : List S78) (o t p : Int), 6 - i = d → l.length = i → i ≤ 6 → (∀ r ∈ l, Small r) → 0 ≤ p → p ≤ 700000000 + 100 * (i : Int) →
    EndsIn (fun k => spec_l91Records.l0 k o l n t (i : Int) b p) (fun r => (∀ x ∈ r.1, Small x) ∧ (n ≤ (r.1.length : Int)) ∧ r.1.length ≤ 6 ∧ p ≤ r.2 ∧ r.2 ≤ p + 100 * (6 - (i : Int))) := by
  have stop : ∀ (i : Nat) (l : List S78) (o t p : Int), l.length = i → i ≤ 6 → (∀ r ∈ l, Small r) → ¬ (i : Int) < n →
      EndsIn (fun k => spec_l91Records.l0 k o l n t (i : Int) b p) (fun r => (∀ x ∈ r.1, Small x) ∧ (n ≤ (r.1.length : Int)) ∧ r.1.length ≤ 6 ∧ p ≤ r.2 ∧ r.2 ≤ p + 100 * (6 - (i : Int))) := by
    intro i l o t p hl hi hs h
    refine EndsIn.step (fun k => by rw [spec_l91Records.l0]) ?_
    simp only [if_neg h]
    exact EndsIn.now _ ⟨hs, by show n ≤ (l.length : Int); omega, by show l.length ≤ 6; omega, by show p ≤ p; omega, by show p ≤ _; omega⟩
  intro d
  induction d with
  | zero =>
    intro i l o t p hd hl hi hs p0 p1
    exact stop i l o t p hl hi hs (by omega)
  | succ d ih =>
    intro i l o t p hd hl hi hs p0 p1
    by_cases h : (i : Int) < n
    · refine EndsIn.step (fun k => by rw [spec_l91Records.l0]) ?_
      simp only [if_pos h]
      refine EndsIn.bind (part_ends hb p p0 (by omega)) fun q hq => ?_
      obtain ⟨q1, q2, q3⟩ := hq
      refine EndsIn.bind (part_ends hb q.2.2 (by omega) (by omega)) fun s hs' => ?_
      obtain ⟨s1, s2, s3⟩ := hs'
      have st : ∀ (c : Bool) (u : Int), s.2.2 ≤ u → u ≤ s.2.2 + 2 → EndsIn (fun k => spec_l91Records.j1 k o l n t (i : Int) s.1 s.2.1 c b u o t q.1 q.2.1 false) (fun r => (∀ x ∈ r.1, Small x) ∧ (n ≤ (r.1.length : Int)) ∧ r.1.length ≤ 6 ∧ p ≤ r.2 ∧ r.2 ≤ p + 100 * (6 - (i : Int))) := by
        intro c u u0 u1
        refine EndsIn.step (fun k => by rw [spec_l91Records.j1]) ?_
        have nx : ∀ (x : S78) (o' t' v : Int), Small x → u ≤ v → v ≤ u + 5 → EndsIn (fun k => spec_l91Records.l0 k o' (l ++ [x]) n t' ((i : Int) + 1) b v) (fun r => (∀ x ∈ r.1, Small x) ∧ (n ≤ (r.1.length : Int)) ∧ r.1.length ≤ 6 ∧ p ≤ r.2 ∧ r.2 ≤ p + 100 * (6 - (i : Int))) := by
          intro x o' t' v hx v0 v1
          have := ih (i + 1) (l ++ [x]) o' t' v (by omega) (by rw [List.length_append, hl]; rfl) (by omega) (fun r hr => by
            rcases List.mem_append.1 hr with hr | hr
            · exact hs r hr
            · rw [List.mem_singleton] at hr
              rw [hr]
              exact hx) (by omega) (by omega)
          exact this.mono fun r hr => ⟨hr.1, hr.2.1, hr.2.2.1, by omega, by omega⟩
        cases c
        · simp only [Bool.false_eq_true, if_false, if_pos (show l.length < 1759218604441 by omega)]
          refine EndsIn.bind (pick_ends hb u 5 (by omega) (by omega) (by omega)) fun v hv => ?_
          rw [hv.1]
          refine EndsIn.bind (pick_ends hb (u + 1) 30 (by omega) (by omega) (by omega)) fun z hz => ?_
          rw [hz.1, w64 (a := (i : Int) + 1) (by omega) (by omega)]
          exact nx _ _ _ _ ⟨q1, s1⟩ (by omega) (by omega)
        · simp only [if_true, if_pos (show l.length < 1759218604441 by omega)]
          refine EndsIn.bind (pick_ends hb u 3 (by omega) (by omega) (by omega)) fun y hy => ?_
          rw [hy.1]
          refine EndsIn.bind (pick_ends hb (u + 1) 5 (by omega) (by omega) (by omega)) fun v hv => ?_
          rw [hv.1]
          refine EndsIn.bind (pick_ends hb (u + 1 + 1) 30 (by omega) (by omega) (by omega)) fun z hz => ?_
          rw [hz.1, w64 (a := (i : Int) + 1) (by omega) (by omega)]
          exact nx _ _ _ _ ⟨by show 1 ≤ 12; omega, s1⟩ (by omega) (by omega)
      cases hq1 : q.1
      · simp only [Bool.false_eq_true, if_false]
        have := st false s.2.2 (by omega) (by omega)
        rw [hq1] at this
        exact this
      · simp only [if_true]
        refine EndsIn.bind (pick_ends hb s.2.2 2 (by omega) (by omega) (by omega)) fun y hy => ?_
        rw [hy.1]
        have := st (y.1 == 0) (s.2.2 + 1) (by omega) (by omega)
        rw [hq1] at this
        exact this
    · exact stop i l o t p hl hi hs h
/-- Some records: one at least. -/
theorem recs_ends {b : List Int} (hb : CodeOk b) (p a n : Int) (h0 : 0 ≤ p) (h1 : p ≤ 600000000) (hn1 : 1 ≤ n) (hn : n ≤ 6) :
    EndsIn (fun k => spec_l91Records.f k b p a n) (fun r => (∀ x ∈ r.1, Small x) ∧ 1 ≤ r.1.length ∧ r.1.length ≤ 6 ∧ p ≤ r.2 ∧ r.2 ≤ p + 700) := by
  unfold spec_l91Records.f
  refine EndsIn.bind (pick_ends hb p n h0 (by omega) (by omega)) fun q hq => ?_
  obtain ⟨q2, q3, q4, _⟩ := hq
  have q5 := q4 (by omega)
  rw [q2]
  refine EndsIn.bind (pick_ends hb (p + 1) 200 (by omega) (by omega) (by omega)) fun s hs => ?_
  rw [hs.1, w64 (a := 1 + q.1) (by omega) (by omega)]
  have := recs_loop hb (1 + q.1) (by omega) 6 0 [] a s.1 (p + 1 + 1) (by omega) rfl (by omega) (by simp) (by omega) (by omega)
  exact this.mono fun r hr => ⟨hr.1, by omega, hr.2.2.1, by omega, by omega⟩
def BatS (l : List S78) : Prop := (∀ x ∈ l, Small x) ∧ 1 ≤ l.length ∧ l.length ≤ 7
theorem bat_j {b : List Int} (hb : CodeOk b) (p : Int) (h0 : 0 ≤ p) (h1 : p ≤ 600000000) (c0 c1 : Bool) (x y z : Int) (l : List S78) (hl : (∀ x ∈ l, Small x) ∧ 1 ≤ l.length ∧ l.length ≤ 6) :
    EndsIn (fun k => spec_l91Batch.j0 k b p c0 c1 x y z l) (fun r => BatS r.2.2.2.2.2.1 ∧ p ≤ r.2.2.2.2.2.2 ∧ r.2.2.2.2.2.2 ≤ p + 3) := by
  obtain ⟨l1, l2, l3⟩ := hl
  have hB : BatS l := ⟨l1, l2, by omega⟩
  refine EndsIn.step (fun k => by rw [spec_l91Batch.j0]) ?_
  refine EndsIn.bind (pick_ends hb p 40 h0 (by omega) (by omega)) fun q hq => ?_
  rw [hq.1]
  by_cases e0 : q.1 = 0
  · simp only [if_pos e0, bindS]
    refine EndsIn.bind (pick_ends hb (p + 1) 3 (by omega) (by omega) (by omega)) fun s hs => ?_
    obtain ⟨s2, s3, s4, _⟩ := hs
    have s5 := s4 (by omega)
    simp only [if_pos s3, if_pos (show s.1 < (([(-1), 1, 100] : List Int).length : Int) by simpa using s5)]
    exact EndsIn.now _ ⟨hB, by show p ≤ s.2; omega, by show s.2 ≤ p + 3; omega⟩
  · simp only [if_neg e0]
    by_cases e1 : q.1 = 1
    · simp only [if_pos e1, if_pos (show (0 : Int) < (l.length : Int) by omega), if_pos (show l.length < 1759218604441 by omega)]
      refine EndsIn.now _ ⟨⟨fun r hr => ?_, by show 1 ≤ (l ++ [_]).length; rw [List.length_append]; omega, by show (l ++ [_]).length ≤ 7; rw [List.length_append]; simp only [List.length_singleton]; omega⟩, by show p ≤ p + 1; omega, by show p + 1 ≤ p + 3; omega⟩
      rcases List.mem_append.1 hr with hr | hr
      · exact l1 r hr
      · rw [List.mem_singleton] at hr
        rw [hr]
        have := l1 _ (List.getElem_mem (show 0 < l.length by omega))
        rw [← rdR_nat l 0 (by omega)] at this
        exact this
    · simp only [if_neg e1]
      by_cases e2 : q.1 = 2
      · simp only [if_pos e2]
        exact EndsIn.now _ ⟨hB, by show p ≤ p + 1; omega, by show p + 1 ≤ p + 3; omega⟩
      · simp only [if_neg e2]
        exact EndsIn.now _ ⟨hB, by show p ≤ p + 1; omega, by show p + 1 ≤ p + 3; omega⟩
theorem bat_ends {b : List Int} (hb : CodeOk b) (p a : Int) (h0 : 0 ≤ p) (h1 : p ≤ 500000000) :
    EndsIn (fun k => spec_l91Batch.f k b p a) (fun r => BatS r.2.2.2.2.2.1 ∧ p ≤ r.2.2.2.2.2.2 ∧ r.2.2.2.2.2.2 ≤ p + 800) := by
  unfold spec_l91Batch.f
  refine EndsIn.bind (pick_ends hb p 2 h0 (by omega) (by omega)) fun q hq => ?_
  rw [hq.1]
  refine EndsIn.bind (recs_ends hb (p + 1) a 4 (by omega) (by omega) (by omega) (by omega)) fun s hs => ?_
  obtain ⟨s1, s2, s3, s4, s5⟩ := hs
  refine EndsIn.bind (pick_ends hb s.2 3 (by omega) (by omega) (by omega)) fun t ht => ?_
  rw [ht.1]
  by_cases e0 : t.1 = 0
  · simp only [if_pos e0]
    refine EndsIn.bind (pick_ends hb (s.2 + 1) 3 (by omega) (by omega) (by omega)) fun u hu => ?_
    rw [hu.1]
    refine EndsIn.bind (pick_ends hb (s.2 + 1 + 1) 3 (by omega) (by omega) (by omega)) fun v hv => ?_
    rw [hv.1]
    refine EndsIn.bind (pick_ends hb (s.2 + 1 + 1 + 1) 5 (by omega) (by omega) (by omega)) fun x hx => ?_
    rw [hx.1]
    refine EndsIn.bind (pick_ends hb (s.2 + 1 + 1 + 1 + 1) 3 (by omega) (by omega) (by omega)) fun y hy => ?_
    rw [hy.1]
    by_cases ey : y.1 = 0
    · simp only [if_pos ey]
      refine EndsIn.bind (pick_ends hb (s.2 + 1 + 1 + 1 + 1 + 1) 200 (by omega) (by omega) (by omega)) fun z hz => ?_
      rw [hz.1]
      refine EndsIn.bind (pick_ends hb (s.2 + 1 + 1 + 1 + 1 + 1 + 1) 2 (by omega) (by omega) (by omega)) fun m hm => ?_
      rw [hm.1]
      refine (bat_j hb (s.2 + 1 + 1 + 1 + 1 + 1 + 1 + 1) (by omega) (by omega) _ _ _ _ _ _ ⟨fun r hr => ?_, by simp, by simp⟩).mono fun r hr => ⟨hr.1, by omega, by omega⟩
      rw [List.mem_singleton] at hr
      rw [hr]
      exact ⟨by show 0 ≤ 12; omega, by show 1 ≤ 12; omega⟩
    · simp only [if_neg ey]
      exact (bat_j hb (s.2 + 1 + 1 + 1 + 1 + 1) (by omega) (by omega) _ _ _ _ _ _ ⟨s1, s2, s3⟩).mono fun r hr => ⟨hr.1, by omega, by omega⟩
  · simp only [if_neg e0]
    exact (bat_j hb (s.2 + 1) (by omega) (by omega) _ _ _ _ _ _ ⟨s1, s2, s3⟩).mono fun r hr => ⟨hr.1, by omega, by omega⟩
theorem BatS.rowR {l : List S78} (h : BatS l) : RowR l := ⟨by have := h.2.2; omega, fun r hr => by have := h.1 r hr; unfold Small at this; exact ⟨by omega, by omega⟩⟩
end Go.Proofs.Ytkihdohphddjaaa.Pu

namespace Go.Proofs.Ytkihdohphddjaaa.Pu
open Go.RowKit Go.Proofs.YtkihdohphddjaaaW.PrintWords Go.Proofs.YtkihdohphddjaaaW.PrintLast Go.Proofs.YtkihdohphddjaaaW.PrintMore Go.Proofs.Ytkihdohphddjaaa.G
set_option linter.unusedVariables false
set_option linter.unusedSimpArgs false
def DrL (l : List S75) : Prop := l.length ≤ 9 ∧ ∀ x ∈ l, BatS x.f5
theorem DrL.rowB {l : List S75} (h : DrL l) : RowB l := ⟨by have := h.1; omega, fun x hx => (h.2 x hx).rowR⟩
theorem log_loop {b : List Int} (hb : CodeOk b) (n : Int) (hn : n ≤ 9) : ∀ d (i : Nat) (l : List S75) (o p : Int), 9 - i = d → l.length = i → i ≤ 9 → (∀ x ∈ l, BatS x.f5) → 0 ≤ p → p ≤ 400000000 + 2000 * (i : Int) →
    EndsIn (fun k => spec_l92Log.l0 k l n o (i : Int) b p) (fun r => DrL r.1 ∧ p ≤ r.2 ∧ r.2 ≤ p + 2000 * (9 - (i : Int)) + 10) := by
  have stop : ∀ (i : Nat) (l : List S75) (o p : Int), l.length = i → i ≤ 9 → (∀ x ∈ l, BatS x.f5) → 0 ≤ p → p ≤ 400000000 + 2000 * (i : Int) → ¬ (i : Int) < n →
      EndsIn (fun k => spec_l92Log.l0 k l n o (i : Int) b p) (fun r => DrL r.1 ∧ p ≤ r.2 ∧ r.2 ≤ p + 2000 * (9 - (i : Int)) + 10) := by
    intro i l o p hl hi hs p0 p1 h
    refine EndsIn.step (fun k => by rw [spec_l92Log.l0]) ?_
    simp only [if_neg h]
    by_cases h1 : n > 1
    · simp only [if_pos h1]
      refine EndsIn.bind (pick_ends hb p 30 p0 (by omega) (by omega)) fun q hq => ?_
      rw [hq.1]
      by_cases e0 : q.1 = 0
      · simp only [if_pos e0, if_pos (show (0 : Int) < (l.length : Int) by omega), if_pos (show (1 : Int) < (l.length : Int) by omega)]
        refine EndsIn.now _ ⟨⟨by rw [List.length_set]; omega, fun x hx => ?_⟩, by show p ≤ p + 1; omega, by show p + 1 ≤ _; omega⟩
        rcases List.mem_or_eq_of_mem_set hx with hx | rfl
        · exact hs x hx
        · have := hs _ (List.getElem_mem (show 0 < l.length by omega))
          rw [← rdB_nat l 0 (by omega)] at this
          exact this
      · simp only [if_neg e0]
        exact EndsIn.now _ ⟨⟨by show l.length ≤ 9; omega, hs⟩, by show p ≤ p + 1; omega, by show p + 1 ≤ _; omega⟩
    · simp only [if_neg h1]
      exact EndsIn.now _ ⟨⟨by show l.length ≤ 9; omega, hs⟩, by show p ≤ p; omega, by show p ≤ _; omega⟩
  intro d
  induction d with
  | zero =>
    intro i l o p hd hl hi hs p0 p1
    exact stop i l o p hl hi hs p0 p1 (by omega)
  | succ d ih =>
    intro i l o p hd hl hi hs p0 p1
    by_cases h : (i : Int) < n
    · refine EndsIn.step (fun k => by rw [spec_l92Log.l0]) ?_
      simp only [if_pos h]
      refine EndsIn.bind (bat_ends hb p o p0 (by omega)) fun x hx => ?_
      obtain ⟨x1, x2, x3⟩ := hx
      refine EndsIn.bind (pick_ends hb x.2.2.2.2.2.2 20 (by omega) (by omega) (by omega)) fun q hq => ?_
      have q2 := hq.1
      have nx : ∀ (y : S75) (o' v : Int), BatS y.f5 → p ≤ v → v ≤ p + 2000 → EndsIn (fun k => spec_l92Log.l0 k (l ++ [y]) n o' ((i : Int) + 1) b v) (fun r => DrL r.1 ∧ p ≤ r.2 ∧ r.2 ≤ p + 2000 * (9 - (i : Int)) + 10) := by
        intro y o' v hy v0 v1
        have := ih (i + 1) (l ++ [y]) o' v (by omega) (by rw [List.length_append, hl]; rfl) (by omega) (fun r hr => by
          rcases List.mem_append.1 hr with hr | hr
          · exact hs r hr
          · rw [List.mem_singleton] at hr
            rw [hr]
            exact hy) (by omega) (by omega)
        exact this.mono fun r hr => ⟨hr.1, by omega, by omega⟩
      have st : ∀ (c : Bool), EndsIn (fun k => spec_l92Log.j2 k l n o (i : Int) c b q.2 x.1 x.2.1 x.2.2.1 x.2.2.2.1 x.2.2.2.2.1 x.2.2.2.2.2.1) (fun r => DrL r.1 ∧ p ≤ r.2 ∧ r.2 ≤ p + 2000 * (9 - (i : Int)) + 10) := by
        intro c
        refine EndsIn.step (fun k => by rw [spec_l92Log.j2]) ?_
        cases c
        · obtain ⟨y1, y2, y3⟩ := x1
          simp only [Bool.false_eq_true, if_false, if_pos (show l.length < 2513169434916 by omega), w64 (a := (x.2.2.2.2.2.1.length : Int) - 1) (by omega) (by omega), if_pos (show (0 : Int) ≤ (x.2.2.2.2.2.1.length : Int) - 1 by omega), if_pos (show (x.2.2.2.2.2.1.length : Int) - 1 < (x.2.2.2.2.2.1.length : Int) by omega)]
          refine EndsIn.bind (pick_ends hb q.2 4 (by omega) (by omega) (by omega)) fun z hz => ?_
          rw [hz.1, w64 (a := (i : Int) + 1) (by omega) (by omega)]
          exact nx _ _ _ ⟨y1, y2, y3⟩ (by omega) (by omega)
        · simp only [if_true]
          refine EndsIn.bind (recs_ends hb q.2 o 2 (by omega) (by omega) (by omega) (by omega)) fun s hs => ?_
          obtain ⟨s1, s2, s3, s4, s5⟩ := hs
          simp only [if_pos (show l.length < 2513169434916 by omega), w64 (a := (s.1.length : Int) - 1) (by omega) (by omega), if_pos (show (0 : Int) ≤ (s.1.length : Int) - 1 by omega), if_pos (show (s.1.length : Int) - 1 < (s.1.length : Int) by omega)]
          refine EndsIn.bind (pick_ends hb s.2 4 (by omega) (by omega) (by omega)) fun z hz => ?_
          rw [hz.1, w64 (a := (i : Int) + 1) (by omega) (by omega)]
          exact nx _ _ _ ⟨s1, s2, by show s.1.length ≤ 7; omega⟩ (by omega) (by omega)
      by_cases e0 : q.1 > 0
      · simp only [if_pos e0]
        refine EndsIn.bind (P := fun _ => True) ⟨_, sBatchValid_ev ⟨x.1, x.2.1, x.2.2.1, x.2.2.2.1, x.2.2.2.2.1, x.2.2.2.2.2.1⟩ x1.rowR, trivial⟩ fun t _ => ?_
        exact st _
      · simp only [if_neg e0]
        exact st _
    · exact stop i l o p hl hi hs p0 p1 h
theorem drawLog_ends {b : List Int} (hb : CodeOk b) (p : Int) (h0 : 0 ≤ p) (h1 : p ≤ 300000000) : EndsIn (fun k => spec_l92Log.f k b p) (fun r => DrL r.1 ∧ p ≤ r.2 ∧ r.2 ≤ p + 20000) := by
  have st : ∀ (n q : Int), n ≤ 9 → p ≤ q → q ≤ p + 10 → EndsIn (fun k => spec_l92Log.j0 k [] n b q) (fun r => DrL r.1 ∧ p ≤ r.2 ∧ r.2 ≤ p + 20000) := by
    intro n q hn hq0 hq1
    refine EndsIn.step (fun k => by rw [spec_l92Log.j0]) ?_
    refine EndsIn.bind (pick_ends hb q 10 (by omega) (by omega) (by omega)) fun t ht => ?_
    rw [ht.1]
    have := log_loop hb n hn 9 0 [] t.1 (q + 1) (by omega) rfl (by omega) (by simp) (by omega) (by omega)
    exact this.mono fun r hr => ⟨hr.1, by omega, by omega⟩
  unfold spec_l92Log.f
  simp only [bindS]
  refine EndsIn.bind (pick_ends hb p 5 h0 (by omega) (by omega)) fun q hq => ?_
  obtain ⟨q2, q3, q4, _⟩ := hq
  have q5 := q4 (by omega)
  rw [q2]
  refine EndsIn.bind (pick_ends hb (p + 1) 16 (by omega) (by omega) (by omega)) fun s hs => ?_
  rw [hs.1]
  by_cases hz : s.1 = 0
  · simp only [if_pos hz]
    refine EndsIn.bind (pick_ends hb (p + 1 + 1) 3 (by omega) (by omega) (by omega)) fun u hu => ?_
    obtain ⟨u2, u3, u4, _⟩ := hu
    have u5 := u4 (by omega)
    simp only [if_pos u3, if_pos (show u.1 < (([0, 8, 9] : List Int).length : Int) by simpa using u5)]
    rw [u2]
    refine st _ _ ?_ (by omega) (by omega)
    have : u.1 = 0 ∨ u.1 = 1 ∨ u.1 = 2 := by omega
    rcases this with e | e | e <;> (rw [e]; decide)
  · simp only [if_neg hz, w64 (a := 1 + q.1) (by omega) (by omega)]
    exact st _ _ (by omega) (by omega) (by omega)
end Go.Proofs.Ytkihdohphddjaaa.Pu

