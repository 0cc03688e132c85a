/- A text of seat YteoicjlhkaljbaaDoor: what the law FnRecordOfBlank needs of this repo's texts (by pack.py). Not trusted: Lean checks it. -/
import Derived.Test.YteoicjlhkaljbaaDoorKFnRecordOfBlank7
namespace Go.Proofs.YteoicjlhkaljbaaDoor.G
open Go.RowKit Go.Proofs.YteoicjlhkaljbaaDoorW.PrintWords Go.Proofs.YteoicjlhkaljbaaDoorW.PrintLast Go.Proofs.YteoicjlhkaljbaaDoorW.PrintMore
attribute [local go_sem] max2_int min2_int max_two min_two max_three min_three max_four min_four   -- for this text's walks alone
set_option linter.unusedVariables false
set_option linter.unusedSimpArgs false

def IsS101 (w0 W : World) (g : Nat) (f0 : List Int) (f1 : Int) : Prop := ∃ A0 c0, W.heap[g]? = some (.cells #[.slice A0 f0.length c0, .int .i64 f1] 101 (0, 0)) ∧ w0.heap.size ≤ g ∧ Kd.C (Kd.int .u8) w0 A0 f0.length f0
theorem IsS101.grown {w0 W : World} {g : Nat} {f0 : List Int} {f1 : Int} {W1 : World} {row : Option Nat} (h : IsS101 w0 W g f0 f1) (hw : W.grownBy W1 row) (hne : some g ≠ row) : IsS101 w0 W1 g f0 f1 := by
 obtain ⟨A0, c0, hb, hg, hr0⟩ := h
 exact ⟨A0, c0, blk_grown hb hw hne, hg, hr0⟩
theorem IsS101.fresh {w0 W : World} {g : Nat} {f0 : List Int} {f1 : Int} (h : IsS101 w0 W g f0 f1) : ∀ k, W.heap.size ≤ k → k ≠ g := by
 obtain ⟨A0, c0, hb, hg, hr0⟩ := h
 exact Kd.freshB hb
theorem IsS101.kept {w0 W : World} {g : Nat} {f0 : List Int} {f1 : Int} {W1 : World} {S : Nat → Prop} (h : IsS101 w0 W g f0 f1) (hk : Kept W W1 S) (hne : ¬ S g) : IsS101 w0 W1 g f0 f1 := by
 obtain ⟨A0, c0, hb, hg, hr0⟩ := h
 exact ⟨A0, c0, blk_kept hb hk hne, hg, hr0⟩
theorem IsS101.below {w0 W : World} {g : Nat} {f0 : List Int} {f1 : Int} {W1 : World} (h : IsS101 w0 W g f0 f1) (hw : Below W.heap.size W W1) : IsS101 w0 W1 g f0 f1 := h.grown (grown_of_below hw none) (by simp)
theorem IsS101.alloc {w0 W : World} {g : Nat} {f0 : List Int} {f1 : Int} (h : IsS101 w0 W g f0 f1) (o : Obj) : IsS101 w0 (W.alloc o) g f0 f1 := h.below (below_alloc (Below.refl _ _) o)
theorem IsS101.drewN {w0 W : World} {g : Nat} {f0 : List Int} {f1 : Int} (h : IsS101 w0 W g f0 f1) (m : Nat) : IsS101 w0 (W.drewN m) g f0 f1 := h
theorem IsS101.drew {w0 W : World} {g : Nat} {f0 : List Int} {f1 : Int} (h : IsS101 w0 W g f0 f1) : IsS101 w0 W.drew g f0 f1 := h
theorem IsS101.at_ {w0 W : World} {g : Nat} {f0 : List Int} {f1 : Int} {w' : World} {m : Nat} (hq : W.drewN m = w') (h : IsS101 w0 W g f0 f1) : IsS101 w0 w' g f0 f1 := by subst hq; exact IsS101.drewN h m
theorem IsS101.apart {w0 W : World} {g : Nat} {f0 : List Int} {f1 : Int} {α : Type} {d : Kd α} {e : Nat} {base : Nat} {ok : Nat → Prop} {v : Value} {xs : List α} (h : IsS101 w0 W g f0 f1) (ho : d.R e W base ok v xs) (ht : ∀ q, q ∈ e :: d.E → q ≠ 101) : d.R e W base (fun k => ok k ∧ k ≠ g) v xs := by
 obtain ⟨A0, c0, hb, hg, hr0⟩ := h
 exact Kd.R_types ho hb ht
theorem IsS101.own_ne {w0 W : World} {g : Nat} {f0 : List Int} {f1 : Int} {α : Type} {d : Kd α} {e : Nat} {base : Nat} {ok : Nat → Prop} {v : Value} {xs : List α} (h : IsS101 w0 W g f0 f1) (ho : d.R e W base ok v xs) (ht : e ≠ 101) : some g ≠ v.ownBlock := by
 obtain ⟨A0, c0, hb, hg, hr0⟩ := h
 exact Kd.R_ne ho hb ht
theorem IsS101.lt {w0 W : World} {g : Nat} {f0 : List Int} {f1 : Int} (h : IsS101 w0 W g f0 f1) : g < W.heap.size := by
 obtain ⟨A0, c0, hb, hg, hr0⟩ := h
 exact blk_lt hb
theorem IsS101.ge {w0 W : World} {g : Nat} {f0 : List Int} {f1 : Int} (h : IsS101 w0 W g f0 f1) : w0.heap.size ≤ g := by
 obtain ⟨A0, c0, hb, hg, hr0⟩ := h
 exact hg
theorem IsS101.far {w0 W : World} {g : Nat} {f0 : List Int} {f1 : Int} {p : Addr} (h : IsS101 w0 W g f0 f1) (hne : g ≠ p.block) (u : Value) : IsS101 w0 (W.setCell p u) g f0 f1 := by
 obtain ⟨A0, c0, hb, hg, hr0⟩ := h
 exact ⟨A0, c0, blk_far hb hne u, hg, hr0⟩
theorem cellS101_0 {W : World} {g : Nat} {A0 : Option Addr} {c0 : Nat} {f0 : List Int} {f1 : Int} (h : W.heap[g]? = some (.cells #[.slice A0 f0.length c0, .int .i64 f1] 101 (0, 0))) : W.cell? ⟨g, 0, none⟩ = some (.slice A0 f0.length c0) := (blk_cell h 0).trans rfl
theorem cellS101_1 {W : World} {g : Nat} {A0 : Option Addr} {c0 : Nat} {f0 : List Int} {f1 : Int} (h : W.heap[g]? = some (.cells #[.slice A0 f0.length c0, .int .i64 f1] 101 (0, 0))) : W.cell? ⟨g, 1, none⟩ = some (.int .i64 f1) := (blk_cell h 1).trans rfl
theorem IsS101.set_1 {w0 W : World} {g : Nat} {f0 : List Int} {f1 : Int} (h : IsS101 w0 W g f0 f1) (x : Int) : IsS101 w0 (W.setCell ⟨g, 1, none⟩ (.int .i64 x)) g f0 x := by
 obtain ⟨A0, c0, hb, hg, hr0⟩ := h
 exact ⟨A0, c0, by simpa using blk_set hb 1 (.int .i64 x), hg, hr0⟩
section
variable {α : Type} {d : Kd α} {e : Nat} {w w0 W w1 : World} {base g : Nat} {ok : Nat → Prop} {v : Value} {xs : List α}
theorem zi101 {p : Prop} (h : p := by repeat (first | (with_reducible first | exact HI0.out | apply IsS101.alloc | apply IsS101.drewN | apply IsS101.drew | apply IsS101.set_1 | (apply IsS101.far; (case hne => exact Aside0.out (by with_reducible assumption)))) | exact HI0.out)) : p := h
theorem tIb101 {f0 : List Int} {f1 f1' : Int} (h : Aside0 (IsS101 w w0 g f0 f1)) (hb : Below W.heap.size W w1) (k : IsS101 w w0 g f0 f1 → IsS101 w W g f0 f1' := by intro h_; repeat (first | (with_reducible first | exact h_ | apply IsS101.alloc | apply IsS101.drewN | apply IsS101.drew | apply IsS101.set_1 | (apply IsS101.far; (case hne => exact Aside0.out (by with_reducible assumption)))) | exact h_)) : Aside0 (IsS101 w w1 g f0 f1') := ⟨(k h.out).below hb⟩
theorem tRp101 {f0 : List Int} {f1 f1' : Int} {w' : World} (h : Aside0 (Kd.R d e w base ok v xs)) (hi : Aside0 (IsS101 w0 w1 g f0 f1)) (hk : KeepBut W w' g none) (k : Kd.R d e w base ok v xs → Kd.R d e W base ok v xs := by intro h_; (with_reducible repeat (first | apply Kd.R_alloc | apply Kd.R_drewN | apply Kd.R_drew | refine Kd.R_far ?_ (fun _ hk_ => Pr.out hk_) _)); exact h_) (ki : IsS101 w0 w1 g f0 f1 → IsS101 w0 W g f0 f1' := by intro h_; repeat (first | (with_reducible first | exact h_ | apply IsS101.alloc | apply IsS101.drewN | apply IsS101.drew | apply IsS101.set_1 | (apply IsS101.far; (case hne => exact Aside0.out (by with_reducible assumption)))) | exact h_)) (ht : ∀ q, q ∈ e :: d.E → q ≠ 101 := by decide) : Aside0 (Kd.R d e w' base ok v xs) := ⟨Kd.R_mono (Kd.R_keep (IsS101.apart (ki hi.out) (k h.out) ht) hk (fun _ h => h.2)) (fun _ h => h.1)⟩
end

def spec_l6Rd_pick.j0 : Nat → Int → Bool → List Int → Int → Option (Int × Int)
 | 0, _, _, _, _ => none
 | k + 1, x1, x24, x1000, x1001 => if x24 = true then (some (0, x1001)) else (if (wrap64 (x1001 - 1)) < (x1000.length : Int) then (if 0 ≤ (wrap64 (x1001 - 1)) then (if x1 = 0 then (none) else (some (Int.tmod (wrap64 (rd x1000 (wrap64 (x1001 - 1)))) x1, x1001))) else (none)) else (if (x1000.length : Int) = 0 then (none) else (if 0 ≤ (Int.tmod (wrap64 (x1001 - 1)) (x1000.length : Int)) then (if (Int.tmod (wrap64 (x1001 - 1)) (x1000.length : Int)) < (x1000.length : Int) then (if 0 ≤ (Int.tmod (wrap64 ((wrap64 ((wrap64 (x1001 - 1)) * 7)) + 3)) (x1000.length : Int)) then (if (Int.tmod (wrap64 ((wrap64 ((wrap64 (x1001 - 1)) * 7)) + 3)) (x1000.length : Int)) < (x1000.length : Int) then (if x1 = 0 then (none) else (some (Int.tmod (Go.bits .xor .i64 (wrap64 ((wrap64 ((wrap64 ((wrap64 ((wrap64 (rd x1000 (Int.tmod (wrap64 (x1001 - 1)) (x1000.length : Int)))) * 131)) + (wrap64 ((wrap64 (rd x1000 (Int.tmod (wrap64 ((wrap64 ((wrap64 (x1001 - 1)) * 7)) + 3)) (x1000.length : Int)))) * 1117)))) + (wrap64 ((wrap64 (x1001 - 1)) * 29)))) + (wrap64 ((wrap64 (Int.tdiv (wrap64 (x1001 - 1)) (x1000.length : Int))) * 53)))) (wrap64 (Int.tdiv (wrap64 ((wrap64 ((wrap64 ((wrap64 ((wrap64 (rd x1000 (Int.tmod (wrap64 (x1001 - 1)) (x1000.length : Int)))) * 131)) + (wrap64 ((wrap64 (rd x1000 (Int.tmod (wrap64 ((wrap64 ((wrap64 (x1001 - 1)) * 7)) + 3)) (x1000.length : Int)))) * 1117)))) + (wrap64 ((wrap64 (x1001 - 1)) * 29)))) + (wrap64 ((wrap64 (Int.tdiv (wrap64 (x1001 - 1)) (x1000.length : Int))) * 53)))) 64))) x1, x1001))) else (none)) else (none)) else (none)) else (none))))
def spec_l6Rd_pick.f (k : Nat) (s0_0 : List Int) (s0_1 : Int) (a1 : Int) : Option (Int × Int) := if a1 < 1 then (spec_l6Rd_pick.j0 k a1 true s0_0 (wrap64 (s0_1 + 1))) else (spec_l6Rd_pick.j0 k a1 ((s0_0.length : Int) == 0) s0_0 (wrap64 (s0_1 + 1)))
set_option maxHeartbeats 8000000 in
set_option maxRecDepth 100000 in
theorem spec_l6Rd_pick.calls (k : Nat) (g : Nat) (s0_0 : List Int) (s0_1 : Int) (a1 : Int) (r1 : Int) (r2 : Int) (w0 w : World) (hI : IsS101 w0 w g s0_0 s0_1) (hB : Below w0.heap.size w0 w) (h : spec_l6Rd_pick.f k s0_0 s0_1 a1 = some (r1, r2)) :
  Calls Tryd.prog 51 #[.pointer (some ⟨g, 0, none⟩), .int .i64 a1] w fun e w' => e = .returned (.int .i64 r1) ∧ IsS101 w0 w' g s0_0 r2 ∧ Below w0.heap.size w0 w' ∧ KeepBut w w' g none := by
 have HI0 := Aside0.mk hI
 have HK := Aside0.mk (KeepBut.refl w g none)
 have HL := Aside0.mk hB.size
 clear hI
 have HW0 := Aside0.mk hB.size
 have HB := Aside0.mk hB
 clear hB
 have H : (if a1 < 1 then (spec_l6Rd_pick.j0 k a1 true s0_0 (wrap64 (s0_1 + 1))) else (spec_l6Rd_pick.j0 k a1 ((s0_0.length : Int) == 0) s0_0 (wrap64 (s0_1 + 1)))) = some (r1, r2) := h
 clear h
 have HC3 := Aside0.mk H
 clear H
 obtain ⟨ASz4_0, cSz4_0, HGz4, hgz4, HSz4_0⟩ := HI0.out
 have hcz4_0 := cellS101_0 HGz4
 have hcz4_1 := cellS101_1 HGz4
 have hfz4_1 := blk_frozen HGz4 1
 clear HGz4 hgz4
 go_enter Tryd.func51, Tryd.ntmps51
 go_upto_region 2 with (fail)
 repeat (go_quiet (fail); go_upto_region 2 with (fail))
 go_cut [24] (fun v24 wc => ∃ (kq : Nat) (x24_2 : Bool), v24 = .bool x24_2 ∧ Aside0 (spec_l6Rd_pick.j0 kq a1 x24_2 s0_0 (wrap64 (s0_1 + 1)) = some (r1, r2)) ∧ Aside0 (kq ≤ k) ∧ Aside0 (IsS101 w0 wc g s0_0 (wrap64 (s0_1 + 1))) ∧ Aside0 (KeepBut w wc g none) ∧ Aside0 (Below w0.heap.size w0 wc))
 case first =>
  have H := HC3.out
  clear HC3
  by_cases c5 : a1 < 1
  ·rw [if_pos c5] at H
   have c5b0 : decide (a1 < 1) = true := decide_eq_true c5
   clear c5
   (first | rw [c5b0] | (simp only [i64_w, i32_w]; rw [c5b0]) | skip)
   have H' := Aside0.mk H
   clear H
   go_wp2
   repeat (go_quiet (fail); try go_wp2)
   go_meet
   case rel => exact ⟨_, (true), tr, H', ⟨by first | omega | exact Nat.le_refl _⟩, ⟨zi101⟩, ⟨zk⟩, ⟨zb⟩⟩
  ·rw [if_neg c5] at H
   have c5b0 : decide (a1 < 1) = false := decide_eq_false c5
   clear c5
   (first | rw [c5b0] | (simp only [i64_w, i32_w]; rw [c5b0]) | skip)
   have H' := Aside0.mk H
   clear H
   obtain ⟨ASz6_0, cSz6_0, HGz6, hgz6, HSz6_0⟩ := HI0.out
   have hcz6_0 := cellS101_0 HGz6
   have hcz6_1 := cellS101_1 HGz6
   have hfz6_1 := blk_frozen HGz6 1
   clear HGz6 hgz6
   go_wp2
   repeat (go_quiet (fail); try go_wp2)
   go_meet
   case rel => exact ⟨_, (((s0_0.length : Int) == 0)), tr, H', ⟨by first | omega | exact Nat.le_refl _⟩, ⟨zi101⟩, ⟨zk⟩, ⟨zb⟩⟩
 case rest =>
  clear HC3
  try clear hcz4_0; try clear hcz4_1; try clear hfz4_1
  obtain ⟨kq, x24_2, rfl, HA, HJ2, HI0, HK, HB⟩ := hcut
  cases kq with
  | zero => exact absurd HA.out (by simp [spec_l6Rd_pick.j0])
  | succ kj2 =>
   have H := HA.out
   clear HA
   simp only [spec_l6Rd_pick.j0] at H
   by_cases c7 : x24_2 = true
   ·subst c7
    rw [if_pos rfl] at H
    simp only [Option.some.injEq, Prod.mk.injEq] at H
    obtain ⟨rfl, rfl⟩ := H
    go_wp2
    repeat (go_quiet (fail); try go_wp2)
    go_ret
    exact ⟨by first | rfl | (simp [errW_none, errW_some] <;> rfl) | (simp [*, errW_none, errW_some] <;> rfl), zi101, zb, zk⟩
   ·replace c7 := Bool.eq_false_iff.mpr c7
    subst c7
    rw [if_neg (show ¬ (false = true) by decide)] at H
    by_cases c8 : (wrap64 ((wrap64 (s0_1 + 1)) - 1)) < (s0_0.length : Int)
    ·rw [if_pos c8] at H
     have c8b0 : decide ((wrap64 ((wrap64 (s0_1 + 1)) - 1)) < (s0_0.length : Int)) = true := decide_eq_true c8
     clear c8
     obtain ⟨ji9, hji9⟩ : ∃ j_ : Int, (wrap64 ((wrap64 (s0_1 + 1)) - 1)) = j_ := ⟨_, rfl⟩
     replace H : (if 0 ≤ (ji9) then (if a1 = 0 then (none) else (some (Int.tmod (wrap64 (rd s0_0 (ji9))) a1, (wrap64 (s0_1 + 1))))) else (none)) = some (r1, r2) := by first | (rw [hji9] at H; exact H) | (simp only [hji9] at H ⊢; exact H)
     (try rw [hji9] at c8b0)
     have hji9w : (IntKind.i64.wrap ((wrap64 (s0_1 + 1)) - 1)) = ji9 := (i64_w _).trans hji9
     by_cases c10 : 0 ≤ (ji9)
     ·rw [if_pos c10] at H
      have c10b0 : decide (0 ≤ (ji9)) = true := decide_eq_true c10
      clear c10
      by_cases c11 : a1 = 0
      ·rw [if_pos c11] at H
       exact absurd H (by simp)
      ·rw [if_neg c11] at H
       have c11b0 : (a1 == 0) = false := beq_eq_false_iff_ne.mpr c11
       have c11b1 : (a1 != 0) = true := bne_iff_ne.mpr c11
       simp only [Option.some.injEq, Prod.mk.injEq] at H
       obtain ⟨rfl, rfl⟩ := H
       obtain ⟨ASz12_0, cSz12_0, HGz12, hgz12, HSz12_0⟩ := HI0.out
       have hcz12_0 := cellS101_0 HGz12
       have hcz12_1 := cellS101_1 HGz12
       have hfz12_1 := blk_frozen HGz12 1
       clear HGz12 hgz12
       have p101 : 0 ≤ ((ji9) : Int) := td
       have q101 : (ji9) < (s0_0.length : Int) := td
       obtain ⟨ad101, e101, hx101_0⟩ := Kd.at_int HSz12_0 (ji9) p101 q101
       cases e101
       replace hx101_0 := pw_cell_below HB.out hx101_0
       replace p101 := eq_true p101
       replace q101 := eq_true q101
       go_wp2
       repeat (go_quiet (fail); try go_wp2)
       go_ret
       exact ⟨by first | rfl | (simp [errW_none, errW_some] <;> rfl) | (simp only [← hji9]; first | rfl | (simp [errW_none, errW_some] <;> rfl)) | (simp [*, errW_none, errW_some] <;> rfl), zi101, zb, zk⟩
     ·rw [if_neg c10] at H
      exact absurd H (by simp)
    ·rw [if_neg c8] at H
     have c8b0 : decide ((wrap64 ((wrap64 (s0_1 + 1)) - 1)) < (s0_0.length : Int)) = false := decide_eq_false c8
     clear c8
     by_cases c13 : (s0_0.length : Int) = 0
     ·rw [if_pos c13] at H
      exact absurd H (by simp)
     ·rw [if_neg c13] at H
      have c13b0 : ((s0_0.length : Int) == 0) = false := beq_eq_false_iff_ne.mpr c13
      have c13b1 : ((s0_0.length : Int) != 0) = true := bne_iff_ne.mpr c13
      have c13b2 : ¬ (s0_0 = []) := fun h_ => c13 (by rw [h_]; rfl)
      obtain ⟨ji14, hji14⟩ : ∃ j_ : Int, (Int.tmod (wrap64 ((wrap64 (s0_1 + 1)) - 1)) (s0_0.length : Int)) = j_ := ⟨_, rfl⟩
      replace H : (if 0 ≤ (ji14) then (if (ji14) < (s0_0.length : Int) then (if 0 ≤ (Int.tmod (wrap64 ((wrap64 ((wrap64 ((wrap64 (s0_1 + 1)) - 1)) * 7)) + 3)) (s0_0.length : Int)) then (if (Int.tmod (wrap64 ((wrap64 ((wrap64 ((wrap64 (s0_1 + 1)) - 1)) * 7)) + 3)) (s0_0.length : Int)) < (s0_0.length : Int) then (if a1 = 0 then (none) else (some (Int.tmod (Go.bits .xor .i64 (wrap64 ((wrap64 ((wrap64 ((wrap64 ((wrap64 (rd s0_0 (ji14))) * 131)) + (wrap64 ((wrap64 (rd s0_0 (Int.tmod (wrap64 ((wrap64 ((wrap64 ((wrap64 (s0_1 + 1)) - 1)) * 7)) + 3)) (s0_0.length : Int)))) * 1117)))) + (wrap64 ((wrap64 ((wrap64 (s0_1 + 1)) - 1)) * 29)))) + (wrap64 ((wrap64 (Int.tdiv (wrap64 ((wrap64 (s0_1 + 1)) - 1)) (s0_0.length : Int))) * 53)))) (wrap64 (Int.tdiv (wrap64 ((wrap64 ((wrap64 ((wrap64 ((wrap64 (rd s0_0 (ji14))) * 131)) + (wrap64 ((wrap64 (rd s0_0 (Int.tmod (wrap64 ((wrap64 ((wrap64 ((wrap64 (s0_1 + 1)) - 1)) * 7)) + 3)) (s0_0.length : Int)))) * 1117)))) + (wrap64 ((wrap64 ((wrap64 (s0_1 + 1)) - 1)) * 29)))) + (wrap64 ((wrap64 (Int.tdiv (wrap64 ((wrap64 (s0_1 + 1)) - 1)) (s0_0.length : Int))) * 53)))) 64))) a1, (wrap64 (s0_1 + 1))))) else (none)) else (none)) else (none)) else (none)) = some (r1, r2) := by first | (rw [hji14] at H; exact H) | (simp only [hji14] at H ⊢; exact H)
      by_cases c15 : 0 ≤ (ji14)
      ·rw [if_pos c15] at H
       have c15b0 : decide (0 ≤ (ji14)) = true := decide_eq_true c15
       clear c15
       by_cases c16 : (ji14) < (s0_0.length : Int)
       ·rw [if_pos c16] at H
        have c16b0 : decide ((ji14) < (s0_0.length : Int)) = true := decide_eq_true c16
        clear c16
        obtain ⟨ji17, hji17⟩ : ∃ j_ : Int, (Int.tmod (wrap64 ((wrap64 ((wrap64 ((wrap64 (s0_1 + 1)) - 1)) * 7)) + 3)) (s0_0.length : Int)) = j_ := ⟨_, rfl⟩
        replace H : (if 0 ≤ (ji17) then (if (ji17) < (s0_0.length : Int) then (if a1 = 0 then (none) else (some (Int.tmod (Go.bits .xor .i64 (wrap64 ((wrap64 ((wrap64 ((wrap64 ((wrap64 (rd s0_0 (ji14))) * 131)) + (wrap64 ((wrap64 (rd s0_0 (ji17))) * 1117)))) + (wrap64 ((wrap64 ((wrap64 (s0_1 + 1)) - 1)) * 29)))) + (wrap64 ((wrap64 (Int.tdiv (wrap64 ((wrap64 (s0_1 + 1)) - 1)) (s0_0.length : Int))) * 53)))) (wrap64 (Int.tdiv (wrap64 ((wrap64 ((wrap64 ((wrap64 ((wrap64 (rd s0_0 (ji14))) * 131)) + (wrap64 ((wrap64 (rd s0_0 (ji17))) * 1117)))) + (wrap64 ((wrap64 ((wrap64 (s0_1 + 1)) - 1)) * 29)))) + (wrap64 ((wrap64 (Int.tdiv (wrap64 ((wrap64 (s0_1 + 1)) - 1)) (s0_0.length : Int))) * 53)))) 64))) a1, (wrap64 (s0_1 + 1))))) else (none)) else (none)) = some (r1, r2) := by first | (rw [hji17] at H; exact H) | (simp only [hji17] at H ⊢; exact H)
        by_cases c18 : 0 ≤ (ji17)
        ·rw [if_pos c18] at H
         have c18b0 : decide (0 ≤ (ji17)) = true := decide_eq_true c18
         clear c18
         by_cases c19 : (ji17) < (s0_0.length : Int)
         ·rw [if_pos c19] at H
          have c19b0 : decide ((ji17) < (s0_0.length : Int)) = true := decide_eq_true c19
          clear c19
          by_cases c20 : a1 = 0
          ·rw [if_pos c20] at H
           exact absurd H (by simp)
          ·rw [if_neg c20] at H
           have c20b0 : (a1 == 0) = false := beq_eq_false_iff_ne.mpr c20
           have c20b1 : (a1 != 0) = true := bne_iff_ne.mpr c20
           simp only [Option.some.injEq, Prod.mk.injEq] at H
           obtain ⟨rfl, rfl⟩ := H
           obtain ⟨ASz21_0, cSz21_0, HGz21, hgz21, HSz21_0⟩ := HI0.out
           have hcz21_0 := cellS101_0 HGz21
           have hcz21_1 := cellS101_1 HGz21
           have hfz21_1 := blk_frozen HGz21 1
           clear HGz21 hgz21
           have p102 : 0 ≤ ((ji14) : Int) := td
           have q102 : (ji14) < (s0_0.length : Int) := td
           obtain ⟨ad102, e102, hx102_0⟩ := Kd.at_int HSz21_0 (ji14) p102 q102
           cases e102
           replace hx102_0 := pw_cell_below HB.out hx102_0
           replace p102 := eq_true p102
           replace q102 := eq_true q102
           have p103 : 0 ≤ ((ji17) : Int) := td
           have q103 : (ji17) < (s0_0.length : Int) := td
           obtain ⟨ad103, e103, hx103_0⟩ := Kd.at_int HSz21_0 (ji17) p103 q103
           obtain rfl : ad102 = ad103 := (by injection e103)
           replace hx103_0 := pw_cell_below HB.out hx103_0
           replace p103 := eq_true p103
           replace q103 := eq_true q103
           go_wp2
           repeat (go_quiet (fail); try go_wp2)
           go_ret
           exact ⟨by first | rfl | (simp [errW_none, errW_some] <;> rfl) | (simp only [← hji14, ← hji17]; first | rfl | (simp [errW_none, errW_some] <;> rfl)) | (simp [*, errW_none, errW_some] <;> rfl), zi101, zb, zk⟩
         ·rw [if_neg c19] at H
          exact absurd H (by simp)
        ·rw [if_neg c18] at H
         exact absurd H (by simp)
       ·rw [if_neg c16] at H
        exact absurd H (by simp)
      ·rw [if_neg c15] at H
       exact absurd H (by simp)

mutual
def spec_l91Part.j0 : Nat → List Int → Int → List Int → Int → Option (Bool × List Int × Int)
 | 0, _, _, _, _ => none
 | k + 1, x4, x5, x1000, x1001 => spec_l91Part.l0 k x4 x5 0 x1000 x1001
def spec_l91Part.l0 : Nat → List Int → Int → Int → List Int → Int → Option (Bool × List Int × Int)
 | 0, _, _, _, _, _ => none
 | k + 1, x4, x5, x6, x1000, x1001 => if x6 < x5 then ((spec_l6Rd_pick.f k x1000 x1001 256).bind fun bt116 => ((some (([1, 2, 3, bt116.1] : List Int) : List Int)).bind fun y118 => ((spec_l6Rd_pick.f k x1000 bt116.2 4).bind fun bt121 => (if 0 ≤ bt121.1 then (if bt121.1 < (y118.length : Int) then (if x4.length < 17592186044416 then (spec_l91Part.l0 k (x4 ++ [rd y118 bt121.1]) x5 (wrap64 (x6 + 1)) x1000 bt121.2) else (none)) else (none)) else (none))))) else (some (true, x4, x1001))
end
def spec_l91Part.f (k : Nat) (s0_0 : List Int) (s0_1 : Int) : Option (Bool × List Int × Int) := (spec_l6Rd_pick.f k s0_0 s0_1 4).bind fun bt104 => (if bt104.1 = 0 then (some (false, (([] : List Int)), bt104.2)) else ((some (([] : List Int) : List Int)).bind fun y109 => ((spec_l6Rd_pick.f k s0_0 bt104.2 5).bind fun bt112 => ((spec_l6Rd_pick.f k s0_0 bt112.2 12).bind fun bt114 => (if bt114.1 = 0 then (spec_l91Part.j0 k y109 12 s0_0 bt114.2) else (spec_l91Part.j0 k y109 bt112.1 s0_0 bt114.2))))))
set_option maxHeartbeats 8000000 in
set_option maxRecDepth 100000 in
theorem spec_l91Part.calls (k : Nat) (g : Nat) (s0_0 : List Int) (s0_1 : Int) (r1 : Bool) (r2 : List Int) (r3 : Int) (w0 w : World) (hI : IsS101 w0 w g s0_0 s0_1) (hB : Below w0.heap.size w0 w) (h : spec_l91Part.f k s0_0 s0_1 = some (r1, r2, r3)) :
  Calls Tryd.prog 66 #[.pointer (some ⟨g, 0, none⟩)] w fun e w' => ∃ v1_ : Value, e = .returned (.tuple #[.bool r1, v1_]) ∧ Kd.R (Kd.int .i64) 3 w' w.heap.size (fun _ => True) v1_ r2 ∧ IsS101 w0 w' g s0_0 r3 ∧ Below w0.heap.size w0 w' ∧ KeepBut w w' g none := by
 have HI0 := Aside0.mk hI
 have HK := Aside0.mk (KeepBut.refl w g none)
 have HL := Aside0.mk hB.size
 clear hI
 have HW0 := Aside0.mk hB.size
 have HB := Aside0.mk hB
 clear hB
 have H : ((spec_l6Rd_pick.f k s0_0 s0_1 4).bind fun bt104 => (if bt104.1 = 0 then (some (false, (([] : List Int)), bt104.2)) else ((some (([] : List Int) : List Int)).bind fun y109 => ((spec_l6Rd_pick.f k s0_0 bt104.2 5).bind fun bt112 => ((spec_l6Rd_pick.f k s0_0 bt112.2 12).bind fun bt114 => (if bt114.1 = 0 then (spec_l91Part.j0 k y109 12 s0_0 bt114.2) else (spec_l91Part.j0 k y109 bt112.1 s0_0 bt114.2))))))) = some (r1, r2, r3) := h
 clear h
 replace H := tbe H
 obtain ⟨⟨t104, t105⟩, A2, H⟩ := H
 dsimp only at H
 by_cases c3 : t104 = 0
 ·rw [if_pos c3] at H
  have c3b0 : (t104 == 0) = true := beq_iff_eq.mpr c3
  have c3b1 : (t104 != 0) = false := bne_eq_false_iff_eq.mpr c3
  clear c3
  obtain ⟨y106, hy106⟩ : ∃ y_ : List Int, y_ = (([] : List Int)) := ⟨_, rfl⟩
  replace H : (some (false, y106, t105)) = some (r1, r2, r3) := by first | (rw [hy106]; with_reducible exact H) | (have H2_ := (Option.bind_some _ _).symm.trans H; rw [hy106]; with_reducible exact H2_) | (have H2_ := (Option.bind_some _ _).symm.trans H; with_reducible exact H2_) | with_reducible exact H | (rw [hy106]; exact H) | exact H
  have Ny106 := Aside0.mk hy106
  clear hy106
  simp only [Option.some.injEq, Prod.mk.injEq] at H
  obtain ⟨rfl, rfl, rfl⟩ := H
  go_enter Tryd.func66, Tryd.ntmps66
  go_wp2_with (first | ((with_reducible refine gate_callee (f := 51) rfl ?_); refine goesL_ (some 8) rfl rfl Tryd.func51 (by kernel_rfl) rfl #[.pointer (some ⟨g, 0, none⟩), .int .i64 4] rfl tq ?_; (with_reducible refine (spec_l6Rd_pick.calls k g s0_0 s0_1 4 t104 t105 w0 _ ?side1 ?side2 A2.out).mono ?_); (case side1 => exact zi101); (case side2 => exact zb); rintro e w4 ⟨rfl, hi, hb, hk⟩; refine ⟨_, rfl, ?_⟩; replace HK := tKt HK hk; replace HB := Aside0.mk (hb); replace HI0 := Aside0.mk (hi); (try clear hb); (try clear hb2); (try clear hk); (try clear hi)) | ((with_reducible refine gate_dst (N := 10) rfl ?_); refine Kd.R_lit (Kd.int .i64) _ 3 ?hg (N := 10) ?hd (xs := ([] : List Int)) (inner := []) (ok := fun _ => True) (okp := fun _ => True) ?hr ?hp (fun _ hk => hk) trivial (Below.refl _ _) (Nat.le_refl _) (by simp) ?_; (case hd => rfl); (case hg => rfl); (case hr => first | (go_simp; done) | (go_simp; rfl)); (case hp => exact (Reps.none _ _)); intro v107 w5 ho6 hb hg_ hnew_; clear hg_ hnew_; (first | rw [← Ny106.out] at ho6 | (simp only [Int.reduceToNat] at ho6; rw [← Ny106.out] at ho6)); have HO108 := Aside0.mk (Kd.R_lower ho6 (keep_size (w := w) (g := g) (row := none) zk)); replace HI0 := tIb101 HI0 hb; replace HK := tKb HK hb; replace HB := tBs HB hb; clear hb ho6))
  go_ret2
  exact ⟨_, by first | rfl | (simp [errW_none, errW_some] <;> rfl) | (simp [*, errW_none, errW_some] <;> rfl), tR HO108.out, zi101, zb, zk⟩
 ·rw [if_neg c3] at H
  have c3b0 : (t104 == 0) = false := beq_eq_false_iff_ne.mpr c3
  have c3b1 : (t104 != 0) = true := bne_iff_ne.mpr c3
  obtain ⟨y109, hy109⟩ : ∃ y_ : List Int, y_ = (([] : List Int)) := ⟨_, rfl⟩
  replace H : ((spec_l6Rd_pick.f k s0_0 t105 5).bind fun bt112 => ((spec_l6Rd_pick.f k s0_0 bt112.2 12).bind fun bt114 => (if bt114.1 = 0 then (spec_l91Part.j0 k y109 12 s0_0 bt114.2) else (spec_l91Part.j0 k y109 bt112.1 s0_0 bt114.2)))) = some (r1, r2, r3) := by first | (rw [hy109]; with_reducible exact H) | (have H2_ := (Option.bind_some _ _).symm.trans H; rw [hy109]; with_reducible exact H2_) | (have H2_ := (Option.bind_some _ _).symm.trans H; with_reducible exact H2_) | with_reducible exact H | (rw [hy109]; exact H) | exact H
  have Ny109 := Aside0.mk hy109
  clear hy109
  replace H := tbe H
  obtain ⟨⟨t112, t113⟩, A7, H⟩ := H
  dsimp only at H
  replace H := tbe H
  obtain ⟨⟨t114, t115⟩, A8, H⟩ := H
  dsimp only at H
  have HC9 := Aside0.mk H
  clear H
  go_enter Tryd.func66, Tryd.ntmps66
  go_upto_if 16 with (first | ((with_reducible refine gate_callee (f := 51) rfl ?_); refine goesL_ (some 8) rfl rfl Tryd.func51 (by kernel_rfl) rfl #[.pointer (some ⟨g, 0, none⟩), .int .i64 4] rfl tq ?_; (with_reducible refine (spec_l6Rd_pick.calls k g s0_0 s0_1 4 t104 t105 w0 _ ?side1 ?side2 A2.out).mono ?_); (case side1 => exact zi101); (case side2 => exact zb); rintro e w10 ⟨rfl, hi, hb, hk⟩; refine ⟨_, rfl, ?_⟩; replace HK := tKt HK hk; replace HB := Aside0.mk (hb); replace HI0 := Aside0.mk (hi); (try clear hb); (try clear hb2); (try clear hk); (try clear hi)) | ((with_reducible refine gate_dst (N := 11) rfl ?_); refine Kd.R_lit (Kd.int .i64) _ 3 ?hg (N := 11) ?hd (xs := ([] : List Int)) (inner := []) (ok := fun _ => True) (okp := fun _ => True) ?hr ?hp (fun _ hk => hk) trivial (Below.refl _ _) (Nat.le_refl _) (by simp) ?_; (case hd => rfl); (case hg => rfl); (case hr => first | (go_simp; done) | (go_simp; rfl)); (case hp => exact (Reps.none _ _)); intro v110 w11 ho12 hb hg_ hnew_; clear hg_ hnew_; (first | rw [← Ny109.out] at ho12 | (simp only [Int.reduceToNat] at ho12; rw [← Ny109.out] at ho12)); have HO111 := Aside0.mk (Kd.R_lower ho12 (keep_size (w := w) (g := g) (row := none) zk)); replace HI0 := tIb101 HI0 hb; replace HK := tKb HK hb; replace HB := tBs HB hb; clear hb ho12) | ((with_reducible refine gate_callee (f := 51) rfl ?_); refine goesL_ (some 13) rfl rfl Tryd.func51 (by kernel_rfl) rfl #[.pointer (some ⟨g, 0, none⟩), .int .i64 5] rfl tq ?_; (with_reducible refine (spec_l6Rd_pick.calls k g s0_0 t105 5 t112 t113 w0 _ ?side1 ?side2 A7.out).mono ?_); (case side1 => exact zi101); (case side2 => exact zb); rintro e w13 ⟨rfl, hi, hb, hk⟩; refine ⟨_, rfl, ?_⟩; replace HO111 := tRp101 HO111 HI0 hk; replace HK := tKt HK hk; replace HB := Aside0.mk (hb); replace HI0 := Aside0.mk (hi); (try clear hb); (try clear hb2); (try clear hk); (try clear hi)) | ((with_reducible refine gate_callee (f := 51) rfl ?_); refine goesL_ (some 15) rfl rfl Tryd.func51 (by kernel_rfl) rfl #[.pointer (some ⟨g, 0, none⟩), .int .i64 12] rfl tq ?_; (with_reducible refine (spec_l6Rd_pick.calls k g s0_0 t113 12 t114 t115 w0 _ ?side1 ?side2 A8.out).mono ?_); (case side1 => exact zi101); (case side2 => exact zb); rintro e w14 ⟨rfl, hi, hb, hk⟩; refine ⟨_, rfl, ?_⟩; replace HO111 := tRp101 HO111 HI0 hk; replace HK := tKt HK hk; replace HB := Aside0.mk (hb); replace HI0 := Aside0.mk (hi); (try clear hb); (try clear hb2); (try clear hk); (try clear hi)))
  (try simp only [Act.put, List.setIfInBounds_toArray, List.set_cons_zero, List.set_cons_succ])
  go_cut [5] (fun v5 wc => ∃ (kq : Nat) (x5_8 : Int), v5 = .int .i64 x5_8 ∧ Aside0 (spec_l91Part.j0 kq y109 x5_8 s0_0 t115 = some (r1, r2, r3)) ∧ Aside0 (kq ≤ k) ∧ Aside0 (Kd.R (Kd.int .i64) 3 wc w.heap.size (fun _ => True) v110 y109) ∧ Aside0 (IsS101 w0 wc g s0_0 t115) ∧ Aside0 (KeepBut w wc g none) ∧ Aside0 (Below w0.heap.size w0 wc))
  case first =>
   have H := HC9.out
   clear HC9
   by_cases c15 : t114 = 0
   ·rw [if_pos c15] at H
    have c15b0 : (t114 == 0) = true := beq_iff_eq.mpr c15
    have c15b1 : (t114 != 0) = false := bne_eq_false_iff_eq.mpr c15
    clear c15
    (first | rw [c15b0] | (simp only [i64_w, i32_w]; rw [c15b0]) | skip)
    have H' := Aside0.mk H
    clear H
    go_wp2
    go_meet
    case rel => exact ⟨_, (12), tr, H', ⟨by first | omega | exact Nat.le_refl _⟩, ⟨tR HO111.out⟩, ⟨zi101⟩, ⟨zk⟩, ⟨zb⟩⟩
   ·rw [if_neg c15] at H
    have c15b0 : (t114 == 0) = false := beq_eq_false_iff_ne.mpr c15
    have c15b1 : (t114 != 0) = true := bne_iff_ne.mpr c15
    (first | rw [c15b0] | (simp only [i64_w, i32_w]; rw [c15b0]) | skip)
    have H' := Aside0.mk H
    clear H
    go_wp2
    go_meet
    case rel => exact ⟨_, (t112), tr, H', ⟨by first | omega | exact Nat.le_refl _⟩, ⟨tR HO111.out⟩, ⟨zi101⟩, ⟨zk⟩, ⟨zb⟩⟩
  case rest =>
   clear HC9
   try clear c3; try clear c3b0; try clear c3b1
   obtain ⟨kq, x5_8, rfl, HA, HJ8, HO_4, HI0, HK, HB⟩ := hcut
   cases kq with
   | zero => exact absurd HA.out (by simp [spec_l91Part.j0])
   | succ kj8 =>
    have H := HA.out
    clear HA
    simp only [spec_l91Part.j0] at H
    have H' := Aside0.mk H
    clear H
    go_wp2
    go_loopg [4, 6] kj8 (fun kq v4 v6 w' => ∃ (x4_2 : List Int) (x6_2 : Int) (x1001_2 : Int), v6 = .int .i64 x6_2 ∧ Aside0 (spec_l91Part.l0 kq x4_2 x5_8 x6_2 s0_0 x1001_2 = some (r1, r2, r3)) ∧ Aside0 (kq ≤ kj8) ∧ Aside0 (Kd.R (Kd.int .i64) 3 w' w.heap.size (fun _ => True) v4 x4_2) ∧ Aside0 (IsS101 w0 w' g s0_0 x1001_2) ∧ Aside0 (KeepBut w w' g none) ∧ Aside0 (Below w0.heap.size w0 w'))
    case atStart => exact ⟨(y109), (0), (t115), tr, H', ⟨Nat.le_refl _⟩, ⟨tR HO_4.out⟩, ⟨zi101⟩, ⟨zk⟩, ⟨zb⟩⟩
    case round =>
     clear H'
     try clear c3; try clear c3b0; try clear c3b1
     obtain ⟨x4_2, x6_2, x1001_2, rfl, HA, HK2, HO_4, HI0, HK, HB⟩ := hrel
     cases gk with
     | zero => exact absurd HA.out (by simp [spec_l91Part.l0])
     | succ k2 =>
      have H := HA.out
      clear HA
      simp only [spec_l91Part.l0] at H
      by_cases c16 : x6_2 < x5_8
      ·rw [if_pos c16] at H
       have c16b0 : decide (x6_2 < x5_8) = true := decide_eq_true c16
       clear c16
       replace H := tbe H
       obtain ⟨⟨t116, t117⟩, A17, H⟩ := H
       dsimp only at H
       obtain ⟨y118, hy118⟩ : ∃ y_ : List Int, y_ = (([1, 2, 3, t116] : List Int)) := ⟨_, rfl⟩
       replace H : ((spec_l6Rd_pick.f k2 s0_0 t117 4).bind fun bt121 => (if 0 ≤ bt121.1 then (if bt121.1 < (y118.length : Int) then (if x4_2.length < 17592186044416 then (spec_l91Part.l0 k2 (x4_2 ++ [rd y118 bt121.1]) x5_8 (wrap64 (x6_2 + 1)) s0_0 bt121.2) else (none)) else (none)) else (none))) = some (r1, r2, r3) := by first | (rw [hy118]; with_reducible exact H) | (have H2_ := (Option.bind_some _ _).symm.trans H; rw [hy118]; with_reducible exact H2_) | (have H2_ := (Option.bind_some _ _).symm.trans H; with_reducible exact H2_) | with_reducible exact H | (rw [hy118]; exact H) | exact H
       have Ny118 := Aside0.mk hy118
       clear hy118
       replace H := tbe H
       obtain ⟨⟨t121, t122⟩, A18, H⟩ := H
       dsimp only at H
       by_cases c19 : 0 ≤ t121
       ·rw [if_pos c19] at H
        have c19b0 : decide (0 ≤ t121) = true := decide_eq_true c19
        clear c19
        by_cases c20 : t121 < (y118.length : Int)
        ·rw [if_pos c20] at H
         have c20b0 : decide (t121 < (y118.length : Int)) = true := decide_eq_true c20
         clear c20
         by_cases c21 : x4_2.length < 17592186044416
         ·rw [if_pos c21] at H
          have LMc21 := Aside0.mk c21
          clear c21
          obtain ⟨y124, hy124⟩ : ∃ y_ : List Int, y_ = (x4_2 ++ [rd y118 t121]) := ⟨_, rfl⟩
          replace H : (spec_l91Part.l0 k2 y124 x5_8 (wrap64 (x6_2 + 1)) s0_0 t122) = some (r1, r2, r3) := by first | (rw [hy124]; with_reducible exact H) | (have H2_ := (Option.bind_some _ _).symm.trans H; rw [hy124]; with_reducible exact H2_) | (have H2_ := (Option.bind_some _ _).symm.trans H; with_reducible exact H2_) | with_reducible exact H | (rw [hy124]; exact H) | exact H
          have Ny124 := Aside0.mk hy124
          clear hy124
          have H' := Aside0.mk H
          clear H
          go_wp2_with (first | ((with_reducible refine gate_callee (f := 51) rfl ?_); refine goesL_ (some 24) rfl rfl Tryd.func51 (by kernel_rfl) rfl #[.pointer (some ⟨g, 0, none⟩), .int .i64 256] rfl tq ?_; (with_reducible refine (spec_l6Rd_pick.calls k2 g s0_0 x1001_2 256 t116 t117 w0 _ ?side1 ?side2 A17.out).mono ?_); (case side1 => exact zi101); (case side2 => exact zb); rintro e w22 ⟨rfl, hi, hb, hk⟩; refine ⟨_, rfl, ?_⟩; replace HO_4 := tRp101 HO_4 HI0 hk; replace HK := tKt HK hk; replace HB := Aside0.mk (hb); replace HI0 := Aside0.mk (hi); (try clear hb); (try clear hb2); (try clear hk); (try clear hi)) | ((with_reducible refine gate_dst (N := 25) rfl ?_); refine Kd.R_lit (Kd.int .i64) _ 3 ?hg (N := 25) ?hd (xs := ([1, 2, 3, t116] : List Int)) (inner := [.int .i64 1, .int .i64 2, .int .i64 3, .int .i64 t116]) (ok := fun _ => True) (okp := fun _ => True) ?hr ?hp (fun _ hk => hk) trivial (Below.refl _ _) (Nat.le_refl _) (by simp) ?_; (case hd => rfl); (case hg => rfl); (case hr => first | (go_simp; done) | (go_simp; rfl)); (case hp => exact (Reps.one (show Kd.M (Kd.int .i64) _ _ _ 1 [.int .i64 1] from rfl) (Reps.one (show Kd.M (Kd.int .i64) _ _ _ 2 [.int .i64 2] from rfl) (Reps.one (show Kd.M (Kd.int .i64) _ _ _ 3 [.int .i64 3] from rfl) (Reps.one (show Kd.M (Kd.int .i64) _ _ _ t116 [.int .i64 t116] from rfl) (Reps.none _ _)))))); intro v119 w23 ho24 hb hg_ hnew_; clear hg_ hnew_; (first | rw [← Ny118.out] at ho24 | (simp only [Int.reduceToNat] at ho24; rw [← Ny118.out] at ho24)); have HO120 := Aside0.mk (Kd.R_lower (Kd.R_new' ho24 (Kd.R_lt (tR HO_4.out))) (keep_size (w := w) (g := g) (row := none) zk)); replace HO_4 := Aside0.mk (Kd.R_elder' (tR HO_4.out) (Kd.R_base ho24) hb); replace HI0 := tIb101 HI0 hb; replace HK := tKb HK hb; replace HB := tBs HB hb; clear hb ho24) | ((with_reducible refine gate_callee (f := 51) rfl ?_); refine goesL_ (some 27) rfl rfl Tryd.func51 (by kernel_rfl) rfl #[.pointer (some ⟨g, 0, none⟩), .int .i64 4] rfl tq ?_; (with_reducible refine (spec_l6Rd_pick.calls k2 g s0_0 t117 4 t121 t122 w0 _ ?side1 ?side2 A18.out).mono ?_); (case side1 => exact zi101); (case side2 => exact zb); rintro e w25 ⟨rfl, hi, hb, hk⟩; refine ⟨_, rfl, ?_⟩; replace HO_4 := tRp101 HO_4 HI0 hk; replace HO120 := tRp101 HO120 HI0 hk; replace HK := tKt HK hk; replace HB := Aside0.mk (hb); replace HI0 := Aside0.mk (hi); (try clear hb); (try clear hb2); (try clear hk); (try clear hi); obtain ⟨Ao26, co26, eo26⟩ := Kd.R_slice HO120.out; subst eo26; have p123 : 0 ≤ (t121 : Int) := td; have q123 : t121 < (y118.length : Int) := td; obtain ⟨ad123, e123, hx123_0⟩ := Kd.at_int (Kd.R_reads' HO120.out).2.2 t121 p123 q123; cases e123; replace p123 := eq_true p123; replace q123 := eq_true q123) | ((with_reducible refine gate_builtin (b := .append) (xs := #[.tmp 22, .tmp 30]) rfl ?_); at_builtin; refine Kd.R_append (Kd.int .i64) w.heap.size rfl (.tmp 22) (.tmp 30) 23 3 (.int .i64 0) 8 rfl Tryd.underlying23 info3 rfl (by decide) (by omega) u4 x4_2 (rd y118 t121) [.int .i64 (rd y118 t121)] (fun k_ => some k_ ≠ (.slice (some ad123) y118.length co26 : Value).ownBlock) (fun _ => False) rfl rfl ?aP (fun _ hk => hk.elim) ?aF ?aO (Below.refl _ _) ?aS ?aL ?_; (case aP => exact rfl); (case aF => exact (fun k_ hk => Kd.fresh' (Kd.R_lt (tR HO120.out)) k_ hk)); (case aO => exact (tRm HO_4.out)); (case aS => exact (keep_size (w := w) (g := g) (row := none) zk)); (case aL => have := LMc21.out; omega); intro v125 w27 ho hb hg hat; rw [← Ny124.out] at ho; replace HO120 := Aside0.mk (Kd.R_after (ok := (fun _ => True)) (tR HO120.out) hg hat); replace HB := Aside0.mk (below_weaken zb HL.out hb); replace HI0 := Aside0.mk (IsS101.grown zi101 hg (IsS101.own_ne HI0.out HO_4.out (by decide))); replace HK := Aside0.mk (KeepBut.trans zk (KeepBut.of_grown hg g) (Kd.R_base2 HO_4.out)); have HO126 := Aside0.mk (ho); clear HO_4; clear ho hb hg hat))
          go_roundg k2
          case measure => have := HJ8.out; have := HK2.out; omega
          case rel => exact ⟨(y124), (wrap64 (x6_2 + 1)), (t122), tr, H', ⟨by have := HJ8.out; have := HK2.out; omega⟩, ⟨tRm HO126.out⟩, ⟨zi101⟩, ⟨zk⟩, ⟨zb⟩⟩
         ·rw [if_neg c21] at H
          exact absurd H (by simp)
        ·rw [if_neg c20] at H
         exact absurd H (by simp)
       ·rw [if_neg c19] at H
        exact absurd H (by simp)
      ·rw [if_neg c16] at H
       have c16b0 : decide (x6_2 < x5_8) = false := decide_eq_false c16
       clear c16
       simp only [Option.some.injEq, Prod.mk.injEq] at H
       obtain ⟨rfl, rfl, rfl⟩ := H
       go_wp2
       go_ret2
       exact ⟨_, by first | rfl | (simp [errW_none, errW_some] <;> rfl) | (simp [*, errW_none, errW_some] <;> rfl), tR HO_4.out, zi101, zb, zk⟩

def spec_l91Record.f (k : Nat) (s0_0 : List Int) (s0_1 : Int) : Option (Int × Int × Bool × List Int × Bool × List Int × Int) := (spec_l6Rd_pick.f k s0_0 s0_1 60).bind fun bt128 => ((spec_l6Rd_pick.f k s0_0 bt128.2 250).bind fun bt130 => ((spec_l6Rd_pick.f k s0_0 bt130.2 2).bind fun bt132 => ((spec_l6Rd_pick.f k s0_0 bt132.2 100).bind fun bt134 => ((spec_l91Part.f k s0_0 bt134.2).bind fun bt137 => ((spec_l91Part.f k s0_0 bt137.2.2).bind fun bt142 => ((spec_l6Rd_pick.f k s0_0 bt142.2.2 40).bind fun bt147 => (if bt147.1 = 0 then ((some (([(-1), 99999, 100000] : List Int) : List Int)).bind fun y149 => ((spec_l6Rd_pick.f k s0_0 bt147.2 3).bind fun bt152 => (if 0 ≤ bt152.1 then (if bt152.1 < (y149.length : Int) then (some (rd y149 bt152.1, wrap64 (bt130.1 * (wrap64 (1 + (wrap64 (bt132.1 * bt134.1))))), bt137.1, bt137.2.1, bt142.1, bt142.2.1, bt152.2)) else (none)) else (none)))) else (if bt147.1 = 1 then (some (bt128.1, wrap64 (bt130.1 * (wrap64 (1 + (wrap64 (bt132.1 * bt134.1))))), !bt137.1, bt137.2.1, bt142.1, bt142.2.1, bt147.2)) else (if bt147.1 = 2 then (if bt142.2.1.length < 17592186044416 then (some (bt128.1, wrap64 (bt130.1 * (wrap64 (1 + (wrap64 (bt132.1 * bt134.1))))), bt137.1, bt137.2.1, bt142.1, (bt142.2.1 ++ [256]), bt147.2)) else (none)) else (some (bt128.1, wrap64 (bt130.1 * (wrap64 (1 + (wrap64 (bt132.1 * bt134.1))))), bt137.1, bt137.2.1, bt142.1, bt142.2.1, bt147.2)))))))))))
set_option maxHeartbeats 8000000 in
set_option maxRecDepth 100000 in
theorem spec_l91Record.calls (k : Nat) (g : Nat) (s0_0 : List Int) (s0_1 : Int) (r1 : Int) (r2 : Int) (r3 : Bool) (r4 : List Int) (r5 : Bool) (r6 : List Int) (r7 : Int) (w0 w : World) (hI : IsS101 w0 w g s0_0 s0_1) (hB : Below w0.heap.size w0 w) (h : spec_l91Record.f k s0_0 s0_1 = some (r1, r2, r3, r4, r5, r6, r7)) :
  Calls Tryd.prog 33 #[.pointer (some ⟨g, 0, none⟩)] w fun e w' => ∃ v3_ v5_ : Value, e = .returned (.agg #[.int .i64 r1, .int .i64 r2, .bool r3, v3_, .bool r5, v5_]) ∧ Kd.R (Kd.int .i64) 3 w' w.heap.size (fun k_ => some k_ ≠ (v5_ : Value).ownBlock) v3_ r4 ∧ Kd.R (Kd.int .i64) 3 w' w.heap.size (fun k_ => some k_ ≠ (v3_ : Value).ownBlock) v5_ r6 ∧ IsS101 w0 w' g s0_0 r7 ∧ Below w0.heap.size w0 w' ∧ KeepBut w w' g none := by
 have hu25 := Tryd.underlying25
 have HI0 := Aside0.mk hI
 have HK := Aside0.mk (KeepBut.refl w g none)
 have HL := Aside0.mk hB.size
 clear hI
 have HW0 := Aside0.mk hB.size
 have HB := Aside0.mk hB
 clear hB
 have H : ((spec_l6Rd_pick.f k s0_0 s0_1 60).bind fun bt128 => ((spec_l6Rd_pick.f k s0_0 bt128.2 250).bind fun bt130 => ((spec_l6Rd_pick.f k s0_0 bt130.2 2).bind fun bt132 => ((spec_l6Rd_pick.f k s0_0 bt132.2 100).bind fun bt134 => ((spec_l91Part.f k s0_0 bt134.2).bind fun bt137 => ((spec_l91Part.f k s0_0 bt137.2.2).bind fun bt142 => ((spec_l6Rd_pick.f k s0_0 bt142.2.2 40).bind fun bt147 => (if bt147.1 = 0 then ((some (([(-1), 99999, 100000] : List Int) : List Int)).bind fun y149 => ((spec_l6Rd_pick.f k s0_0 bt147.2 3).bind fun bt152 => (if 0 ≤ bt152.1 then (if bt152.1 < (y149.length : Int) then (some (rd y149 bt152.1, wrap64 (bt130.1 * (wrap64 (1 + (wrap64 (bt132.1 * bt134.1))))), bt137.1, bt137.2.1, bt142.1, bt142.2.1, bt152.2)) else (none)) else (none)))) else (if bt147.1 = 1 then (some (bt128.1, wrap64 (bt130.1 * (wrap64 (1 + (wrap64 (bt132.1 * bt134.1))))), !bt137.1, bt137.2.1, bt142.1, bt142.2.1, bt147.2)) else (if bt147.1 = 2 then (if bt142.2.1.length < 17592186044416 then (some (bt128.1, wrap64 (bt130.1 * (wrap64 (1 + (wrap64 (bt132.1 * bt134.1))))), bt137.1, bt137.2.1, bt142.1, (bt142.2.1 ++ [256]), bt147.2)) else (none)) else (some (bt128.1, wrap64 (bt130.1 * (wrap64 (1 + (wrap64 (bt132.1 * bt134.1))))), bt137.1, bt137.2.1, bt142.1, bt142.2.1, bt147.2)))))))))))) = some (r1, r2, r3, r4, r5, r6, r7) := h
 clear h
 replace H := tbe H
 obtain ⟨⟨t128, t129⟩, A2, H⟩ := H
 dsimp only at H
 replace H := tbe H
 obtain ⟨⟨t130, t131⟩, A3, H⟩ := H
 dsimp only at H
 replace H := tbe H
 obtain ⟨⟨t132, t133⟩, A4, H⟩ := H
 dsimp only at H
 replace H := tbe H
 obtain ⟨⟨t134, t135⟩, A5, H⟩ := H
 dsimp only at H
 replace H := tbe H
 obtain ⟨⟨t137, t138, t141⟩, A6, H⟩ := H
 dsimp only at H
 replace H := tbe H
 obtain ⟨⟨t142, t143, t146⟩, A7, H⟩ := H
 dsimp only at H
 replace H := tbe H
 obtain ⟨⟨t147, t148⟩, A8, H⟩ := H
 dsimp only at H
 by_cases c9 : t147 = 0
 ·rw [if_pos c9] at H
  have c9b0 : (t147 == 0) = true := beq_iff_eq.mpr c9
  have c9b1 : (t147 != 0) = false := bne_eq_false_iff_eq.mpr c9
  clear c9
  obtain ⟨y149, hy149⟩ : ∃ y_ : List Int, y_ = (([(-1), 99999, 100000] : List Int)) := ⟨_, rfl⟩
  replace H : ((spec_l6Rd_pick.f k s0_0 t148 3).bind fun bt152 => (if 0 ≤ bt152.1 then (if bt152.1 < (y149.length : Int) then (some (rd y149 bt152.1, wrap64 (t130 * (wrap64 (1 + (wrap64 (t132 * t134))))), t137, t138, t142, t143, bt152.2)) else (none)) else (none))) = some (r1, r2, r3, r4, r5, r6, r7) := by first | (rw [hy149]; with_reducible exact H) | (have H2_ := (Option.bind_some _ _).symm.trans H; rw [hy149]; with_reducible exact H2_) | (have H2_ := (Option.bind_some _ _).symm.trans H; with_reducible exact H2_) | with_reducible exact H | (rw [hy149]; exact H) | exact H
  have Ny149 := Aside0.mk hy149
  clear hy149
  replace H := tbe H
  obtain ⟨⟨t152, t153⟩, A10, H⟩ := H
  dsimp only at H
  by_cases c11 : 0 ≤ t152
  ·rw [if_pos c11] at H
   have c11b0 : decide (0 ≤ t152) = true := decide_eq_true c11
   clear c11
   by_cases c12 : t152 < (y149.length : Int)
   ·rw [if_pos c12] at H
    have c12b0 : decide (t152 < (y149.length : Int)) = true := decide_eq_true c12
    clear c12
    simp only [Option.some.injEq, Prod.mk.injEq] at H
    obtain ⟨rfl, rfl, rfl, rfl, rfl, rfl, rfl⟩ := H
    go_enter Tryd.func33, Tryd.ntmps33
    go_wp2_with (first | ((with_reducible refine gate_dst (N := 2) rfl ?_); refine box_event ?hg (N := 2) ?hd (cs := #[.int .i64 0, .int .i64 0, .bool false, .slice none 0 0, .bool false, .slice none 0 0]) (t := 25) ?hr ?_; (case hd => rfl); (case hg => rfl); (case hr => first | (go_simp; done) | (go_simp; rfl)); intro gb127 hg w13 hbox hb; replace HB := tBs HB hb; have BK127 := Aside0.mk (hbox); have GW127 := Aside0.mk ((by rw [hg]; exact (keep_size (w := w) (g := g) (row := none) zk) : w.heap.size ≤ gb127)); have GE127 := Aside0.mk ((Nat.le_trans HW0.out (by rw [hg]; exact (keep_size (w := w) (g := g) (row := none) zk) : w.heap.size ≤ gb127) : w0.heap.size ≤ gb127)); replace HK := tKb HK hb; have NB0_127 := Aside0.mk ((by rw [hg]; exact Nat.ne_of_lt (IsS101.lt (show IsS101 w0 _ g s0_0 s0_1 from zi101)) : g ≠ gb127)); have NB127_0 := Aside0.mk ((by rw [hg]; exact Nat.ne_of_gt (IsS101.lt (show IsS101 w0 _ g s0_0 s0_1 from zi101)) : gb127 ≠ g)); replace HI0 := tIb101 HI0 hb; clear hb hbox hg) | ((with_reducible refine gate_callee (f := 51) rfl ?_); refine goesL_ (some 9) rfl rfl Tryd.func51 (by kernel_rfl) rfl #[.pointer (some ⟨g, 0, none⟩), .int .i64 60] rfl tq ?_; (with_reducible refine (spec_l6Rd_pick.calls k g s0_0 s0_1 60 t128 t129 w0 _ ?side1 ?side2 A2.out).mono ?_); (case side1 => exact zi101); (case side2 => exact zb); rintro e w14 ⟨rfl, hi, hb, hk⟩; refine ⟨_, rfl, ?_⟩; replace BK127 := tBk BK127 hk NB127_0; replace HK := tKt HK hk; replace HB := Aside0.mk (hb); replace HI0 := Aside0.mk (hi); (try clear hb); (try clear hb2); (try clear hk); (try clear hi)) | ((with_reducible refine gate_callee (f := 51) rfl ?_); refine goesL_ (some 11) rfl rfl Tryd.func51 (by kernel_rfl) rfl #[.pointer (some ⟨g, 0, none⟩), .int .i64 250] rfl tq ?_; (with_reducible refine (spec_l6Rd_pick.calls k g s0_0 t129 250 t130 t131 w0 _ ?side1 ?side2 A3.out).mono ?_); (case side1 => exact zi101); (case side2 => exact zb); rintro e w15 ⟨rfl, hi, hb, hk⟩; refine ⟨_, rfl, ?_⟩; replace BK127 := tBk BK127 hk NB127_0; replace HK := tKt HK hk; replace HB := Aside0.mk (hb); replace HI0 := Aside0.mk (hi); (try clear hb); (try clear hb2); (try clear hk); (try clear hi)) | ((with_reducible refine gate_callee (f := 51) rfl ?_); refine goesL_ (some 13) rfl rfl Tryd.func51 (by kernel_rfl) rfl #[.pointer (some ⟨g, 0, none⟩), .int .i64 2] rfl tq ?_; (with_reducible refine (spec_l6Rd_pick.calls k g s0_0 t131 2 t132 t133 w0 _ ?side1 ?side2 A4.out).mono ?_); (case side1 => exact zi101); (case side2 => exact zb); rintro e w16 ⟨rfl, hi, hb, hk⟩; refine ⟨_, rfl, ?_⟩; replace BK127 := tBk BK127 hk NB127_0; replace HK := tKt HK hk; replace HB := Aside0.mk (hb); replace HI0 := Aside0.mk (hi); (try clear hb); (try clear hb2); (try clear hk); (try clear hi)) | ((with_reducible refine gate_callee (f := 51) rfl ?_); refine goesL_ (some 15) rfl rfl Tryd.func51 (by kernel_rfl) rfl #[.pointer (some ⟨g, 0, none⟩), .int .i64 100] rfl tq ?_; (with_reducible refine (spec_l6Rd_pick.calls k g s0_0 t133 100 t134 t135 w0 _ ?side1 ?side2 A5.out).mono ?_); (case side1 => exact zi101); (case side2 => exact zb); rintro e w17 ⟨rfl, hi, hb, hk⟩; refine ⟨_, rfl, ?_⟩; replace BK127 := tBk BK127 hk NB127_0; replace HK := tKt HK hk; replace HB := Aside0.mk (hb); replace HI0 := Aside0.mk (hi); (try clear hb); (try clear hb2); (try clear hk); (try clear hi)) | ((with_reducible refine gate_dst (N := 3) rfl ?_); refine box_event ?hg (N := 3) ?hd (cs := #[.int .i64 0, .int .i64 0, .bool false, .slice none 0 0, .bool false, .slice none 0 0]) (t := 25) ?hr ?_; (case hd => rfl); (case hg => rfl); (case hr => first | (go_simp; done) | (go_simp; rfl)); intro gb136 hg w18 hbox hb; replace HB := tBs HB hb; have BK136 := Aside0.mk (hbox); have GW136 := Aside0.mk ((by rw [hg]; exact (keep_size (w := w) (g := g) (row := none) zk) : w.heap.size ≤ gb136)); have GE136 := Aside0.mk ((Nat.le_trans HW0.out (by rw [hg]; exact (keep_size (w := w) (g := g) (row := none) zk) : w.heap.size ≤ gb136) : w0.heap.size ≤ gb136)); replace HK := tKb HK hb; have NB127_136 := tlt BK127 hg; have NB136_127 := tgt BK127 hg; replace BK127 := tBb BK127 hb; have NB0_136 := Aside0.mk ((by rw [hg]; exact Nat.ne_of_lt (IsS101.lt (show IsS101 w0 _ g s0_0 t135 from zi101)) : g ≠ gb136)); have NB136_0 := Aside0.mk ((by rw [hg]; exact Nat.ne_of_gt (IsS101.lt (show IsS101 w0 _ g s0_0 t135 from zi101)) : gb136 ≠ g)); replace HI0 := tIb101 HI0 hb; clear hb hbox hg; have hnb19 := NB136_127.out; have hnc19 := NB127_136.out; have hnb20 := NB136_0.out; have hnc20 := NB0_136.out; obtain ⟨hcz21_0, hcz21_1, hcz21_2, hcz21_3, hcz21_4, hcz21_5, hfz21_0, hfz21_1, hfz21_2, hfz21_3, hfz21_4, hfz21_5⟩ := cells6 BK136.out) | ((with_reducible refine gate_callee (f := 66) rfl ?_); refine goesL_ (some 22) rfl rfl Tryd.func66 (by kernel_rfl) rfl #[.pointer (some ⟨g, 0, none⟩)] rfl tq ?_; (with_reducible refine (spec_l91Part.calls k g s0_0 t135 t137 t138 t141 w0 _ ?side1 ?side2 A6.out).mono ?_); (case side1 => exact zi101); (case side2 => exact zb); rintro e w22 ⟨v139, rfl, ho0, hi, hb, hk⟩; have u_v139 := tsv Tryd.prog v139 ho0; refine ⟨_, rfl, ?_⟩; replace BK127 := tBk BK127 hk NB127_0; replace BK136 := tBq (o' := .cells #[.int .i64 t128, .int .i64 (wrap64 (t130 * (wrap64 (1 + (wrap64 (t132 * t134)))))), .bool false, .slice none 0 0, .bool false, .slice none 0 0] 25 (0, 0)) BK136 hk NB136_0; have HO140 := Aside0.mk (Kd.R_lower ho0 (keep_size (w := w) (g := g) (row := none) zk)); replace HK := tKt HK hk; replace HB := Aside0.mk (hb); replace HI0 := Aside0.mk (hi); (try clear hb); (try clear hb2); (try clear hk); (try clear hi); (try clear ho0)) | ((with_reducible refine gate_callee (f := 66) rfl ?_); refine goesL_ (some 27) rfl rfl Tryd.func66 (by kernel_rfl) rfl #[.pointer (some ⟨g, 0, none⟩)] rfl tq ?_; (with_reducible refine (spec_l91Part.calls k g s0_0 t141 t142 t143 t146 w0 _ ?side1 ?side2 A7.out).mono ?_); (case side1 => exact zi101); (case side2 => exact zb); rintro e w23 ⟨v144, rfl, ho0, hi, hb, hk⟩; have u_v144 := tsv Tryd.prog v144 ho0; refine ⟨_, rfl, ?_⟩; replace BK127 := tBk BK127 hk NB127_0; replace BK136 := tBk BK136 hk NB136_0; have HO145 := Aside0.mk (Kd.R_lower (Kd.R_new' ho0 (Kd.R_lt (tR HO140.out))) (keep_size (w := w) (g := g) (row := none) zk)); replace HO140 := Aside0.mk (Kd.R_mono (Kd.R_told (Kd.R_oldK (IsS101.apart (show IsS101 w0 _ g s0_0 t141 from zi101) (tR HO140.out) (by decide)) hk) (Kd.R_base ho0)) (fun _ h_ => h_.1)); replace HK := tKt HK hk; replace HB := Aside0.mk (hb); replace HI0 := Aside0.mk (hi); (try clear hb); (try clear hb2); (try clear hk); (try clear hi); (try clear ho0); have hcz24_0 : w23.cell? ⟨gb136, 0, none⟩ = some (.int .i64 t128) := (blk_cell BK136.out 0).trans rfl; have hcz24_1 : w23.cell? ⟨gb136, 1, none⟩ = some (.int .i64 (wrap64 (t130 * (wrap64 (1 + (wrap64 (t132 * t134))))))) := (blk_cell BK136.out 1).trans rfl; have hcz24_2 : w23.cell? ⟨gb136, 2, none⟩ = some (.bool false) := (blk_cell BK136.out 2).trans rfl; have hcz24_3 : w23.cell? ⟨gb136, 3, none⟩ = some (.slice none 0 0) := (blk_cell BK136.out 3).trans rfl; have hcz24_4 : w23.cell? ⟨gb136, 4, none⟩ = some (.bool false) := (blk_cell BK136.out 4).trans rfl; have hcz24_5 : w23.cell? ⟨gb136, 5, none⟩ = some (.slice none 0 0) := (blk_cell BK136.out 5).trans rfl; have hfz24_0 := blk_frozen BK136.out 0; have hfz24_1 := blk_frozen BK136.out 1; have hfz24_2 := blk_frozen BK136.out 2; have hfz24_3 := blk_frozen BK136.out 3; have hfz24_4 := blk_frozen BK136.out 4; have hfz24_5 := blk_frozen BK136.out 5; obtain ⟨Ao25, co25, eo25⟩ := Kd.R_slice HO140.out; subst eo25; obtain ⟨Ao26, co26, eo26⟩ := Kd.R_slice HO145.out; subst eo26) | ((with_reducible refine gate_callee (f := 51) rfl ?_); refine goesL_ (some 39) rfl rfl Tryd.func51 (by kernel_rfl) rfl #[.pointer (some ⟨g, 0, none⟩), .int .i64 40] rfl tq ?_; (with_reducible refine (spec_l6Rd_pick.calls k g s0_0 t146 40 t147 t148 w0 _ ?side1 ?side2 A8.out).mono ?_); (case side1 => exact zi101); (case side2 => exact zb); rintro e w27 ⟨rfl, hi, hb, hk⟩; refine ⟨_, rfl, ?_⟩; replace BK127 := tBk BK127 hk NB127_0; replace HO140 := Aside0.mk (Kd.R_mono (Kd.R_keep (IsS101.apart (show IsS101 w0 _ g s0_0 t146 from zi101) (tRt HO140.out BK136.out) (by decide)) hk (fun _ h => h.2)) (fun _ h => h.1)); replace HO145 := Aside0.mk (Kd.R_mono (Kd.R_keep (IsS101.apart (show IsS101 w0 _ g s0_0 t146 from zi101) (tRt HO145.out BK136.out) (by decide)) hk (fun _ h => h.2)) (fun _ h => h.1)); replace BK136 := tBq (o' := .cells #[.int .i64 t128, .int .i64 (wrap64 (t130 * (wrap64 (1 + (wrap64 (t132 * t134)))))), .bool t137, .slice Ao25 t138.length co25, .bool t142, .slice Ao26 t143.length co26] 25 (0, 0)) BK136 hk NB136_0; replace HK := tKt HK hk; replace HB := Aside0.mk (hb); replace HI0 := Aside0.mk (hi); (try clear hb); (try clear hb2); (try clear hk); (try clear hi)) | ((with_reducible refine gate_dst (N := 42) rfl ?_); refine Kd.R_lit (Kd.int .i64) _ 3 ?hg (N := 42) ?hd (xs := ([(-1), 99999, 100000] : List Int)) (inner := [.int .i64 (-1), .int .i64 99999, .int .i64 100000]) (ok := fun _ => True) (okp := fun _ => True) ?hr ?hp (fun _ hk => hk) trivial (Below.refl _ _) (Nat.le_refl _) (by simp) ?_; (case hd => rfl); (case hg => rfl); (case hr => first | (go_simp; done) | (go_simp; rfl)); (case hp => exact (Reps.one (show Kd.M (Kd.int .i64) _ _ _ (-1) [.int .i64 (-1)] from rfl) (Reps.one (show Kd.M (Kd.int .i64) _ _ _ 99999 [.int .i64 99999] from rfl) (Reps.one (show Kd.M (Kd.int .i64) _ _ _ 100000 [.int .i64 100000] from rfl) (Reps.none _ _))))); intro v150 w28 ho29 hb hg_ hnew_; clear hg_ hnew_; (first | rw [← Ny149.out] at ho29 | (simp only [Int.reduceToNat] at ho29; rw [← Ny149.out] at ho29)); have HO151 := Aside0.mk (Kd.R_lower (Kd.R_new' (Kd.R_new' ho29 (Kd.R_lt (tR HO140.out))) (Kd.R_lt (tR HO145.out))) (keep_size (w := w) (g := g) (row := none) zk)); replace HO140 := Aside0.mk (Kd.R_elder' (tR HO140.out) (Kd.R_base ho29) hb); replace HO145 := Aside0.mk (Kd.R_elder' (tR HO145.out) (Kd.R_base ho29) hb); replace HI0 := tIb101 HI0 hb; replace BK127 := tBb BK127 hb; replace BK136 := tBb BK136 hb; replace HK := tKb HK hb; replace HB := tBs HB hb; clear hb ho29) | ((with_reducible refine gate_callee (f := 51) rfl ?_); refine goesL_ (some 44) rfl rfl Tryd.func51 (by kernel_rfl) rfl #[.pointer (some ⟨g, 0, none⟩), .int .i64 3] rfl tq ?_; (with_reducible refine (spec_l6Rd_pick.calls k g s0_0 t148 3 t152 t153 w0 _ ?side1 ?side2 A10.out).mono ?_); (case side1 => exact zi101); (case side2 => exact zb); rintro e w30 ⟨rfl, hi, hb, hk⟩; refine ⟨_, rfl, ?_⟩; replace BK127 := tBk BK127 hk NB127_0; replace BK136 := tBk BK136 hk NB136_0; replace HO140 := tRp101 HO140 HI0 hk; replace HO145 := tRp101 HO145 HI0 hk; replace HO151 := tRp101 HO151 HI0 hk; replace HK := tKt HK hk; replace HB := Aside0.mk (hb); replace HI0 := Aside0.mk (hi); (try clear hb); (try clear hb2); (try clear hk); (try clear hi); obtain ⟨Ao31, co31, eo31⟩ := Kd.R_slice HO151.out; subst eo31; have p154 : 0 ≤ (t152 : Int) := td; have q154 : t152 < (y149.length : Int) := td; obtain ⟨ad154, e154, hx154_0⟩ := Kd.at_int (Kd.R_reads' HO151.out).2.2 t152 p154 q154; cases e154; replace p154 := eq_true p154; replace q154 := eq_true q154; have hcz32_0 : w30.cell? ⟨gb136, 0, none⟩ = some (.int .i64 t128) := (blk_cell BK136.out 0).trans rfl; have hcz32_1 : w30.cell? ⟨gb136, 1, none⟩ = some (.int .i64 (wrap64 (t130 * (wrap64 (1 + (wrap64 (t132 * t134))))))) := (blk_cell BK136.out 1).trans rfl; have hcz32_2 : w30.cell? ⟨gb136, 2, none⟩ = some (.bool t137) := (blk_cell BK136.out 2).trans rfl; have hcz32_3 : w30.cell? ⟨gb136, 3, none⟩ = some (.slice Ao25 t138.length co25) := (blk_cell BK136.out 3).trans rfl; have hcz32_4 : w30.cell? ⟨gb136, 4, none⟩ = some (.bool t142) := (blk_cell BK136.out 4).trans rfl; have hcz32_5 : w30.cell? ⟨gb136, 5, none⟩ = some (.slice Ao26 t143.length co26) := (blk_cell BK136.out 5).trans rfl; have hfz32_0 := blk_frozen BK136.out 0; have hfz32_1 := blk_frozen BK136.out 1; have hfz32_2 := blk_frozen BK136.out 2; have hfz32_3 := blk_frozen BK136.out 3; have hfz32_4 := blk_frozen BK136.out 4; have hfz32_5 := blk_frozen BK136.out 5; have hnb33 := NB127_0.out; have hnc33 := NB0_127.out; obtain ⟨hcz34_0, hcz34_1, hcz34_2, hcz34_3, hcz34_4, hcz34_5, hfz34_0, hfz34_1, hfz34_2, hfz34_3, hfz34_4, hfz34_5⟩ := cells6 BK127.out))
    refine bodyPost_ret (results_cell_row rfl _ _ gb127 25 #[.int .i64 (rd y149 t152), .int .i64 (wrap64 (t130 * (wrap64 (1 + (wrap64 (t132 * t134)))))), .bool t137, .slice Ao25 t138.length co25, .bool t142, .slice Ao26 t143.length co26] (0, 0) _ rfl (tP BK127.out) Tryd.underlying25 rfl (by kernel_rfl)) rfl ?_
    exact ⟨_, _, by first | rfl | (simp [errW_none, errW_some] <;> rfl) | (simp [*, errW_none, errW_some] <;> rfl), tRm (Kd.R_types (Kd.R_types HO140.out BK136.out (by decide)) BK127.out (by decide)), tRm (Kd.R_types (Kd.R_types HO145.out BK136.out (by decide)) BK127.out (by decide)), zi101, zb, zk⟩
   ·rw [if_neg c12] at H
    exact absurd H (by simp)
  ·rw [if_neg c11] at H
   exact absurd H (by simp)
 ·rw [if_neg c9] at H
  have c9b0 : (t147 == 0) = false := beq_eq_false_iff_ne.mpr c9
  have c9b1 : (t147 != 0) = true := bne_iff_ne.mpr c9
  by_cases c35 : t147 = 1
  ·rw [if_pos c35] at H
   have c35b0 : (t147 == 1) = true := beq_iff_eq.mpr c35
   have c35b1 : (t147 != 1) = false := bne_eq_false_iff_eq.mpr c35
   clear c35
   simp only [Option.some.injEq, Prod.mk.injEq] at H
   obtain ⟨rfl, rfl, rfl, rfl, rfl, rfl, rfl⟩ := H
   go_enter Tryd.func33, Tryd.ntmps33
   go_wp2_with (first | ((with_reducible refine gate_dst (N := 2) rfl ?_); refine box_event ?hg (N := 2) ?hd (cs := #[.int .i64 0, .int .i64 0, .bool false, .slice none 0 0, .bool false, .slice none 0 0]) (t := 25) ?hr ?_; (case hd => rfl); (case hg => rfl); (case hr => first | (go_simp; done) | (go_simp; rfl)); intro gb127 hg w36 hbox hb; replace HB := tBs HB hb; have BK127 := Aside0.mk (hbox); have GW127 := Aside0.mk ((by rw [hg]; exact (keep_size (w := w) (g := g) (row := none) zk) : w.heap.size ≤ gb127)); have GE127 := Aside0.mk ((Nat.le_trans HW0.out (by rw [hg]; exact (keep_size (w := w) (g := g) (row := none) zk) : w.heap.size ≤ gb127) : w0.heap.size ≤ gb127)); replace HK := tKb HK hb; have NB0_127 := Aside0.mk ((by rw [hg]; exact Nat.ne_of_lt (IsS101.lt (show IsS101 w0 _ g s0_0 s0_1 from zi101)) : g ≠ gb127)); have NB127_0 := Aside0.mk ((by rw [hg]; exact Nat.ne_of_gt (IsS101.lt (show IsS101 w0 _ g s0_0 s0_1 from zi101)) : gb127 ≠ g)); replace HI0 := tIb101 HI0 hb; clear hb hbox hg) | ((with_reducible refine gate_callee (f := 51) rfl ?_); refine goesL_ (some 9) rfl rfl Tryd.func51 (by kernel_rfl) rfl #[.pointer (some ⟨g, 0, none⟩), .int .i64 60] rfl tq ?_; (with_reducible refine (spec_l6Rd_pick.calls k g s0_0 s0_1 60 t128 t129 w0 _ ?side1 ?side2 A2.out).mono ?_); (case side1 => exact zi101); (case side2 => exact zb); rintro e w37 ⟨rfl, hi, hb, hk⟩; refine ⟨_, rfl, ?_⟩; replace BK127 := tBk BK127 hk NB127_0; replace HK := tKt HK hk; replace HB := Aside0.mk (hb); replace HI0 := Aside0.mk (hi); (try clear hb); (try clear hb2); (try clear hk); (try clear hi)) | ((with_reducible refine gate_callee (f := 51) rfl ?_); refine goesL_ (some 11) rfl rfl Tryd.func51 (by kernel_rfl) rfl #[.pointer (some ⟨g, 0, none⟩), .int .i64 250] rfl tq ?_; (with_reducible refine (spec_l6Rd_pick.calls k g s0_0 t129 250 t130 t131 w0 _ ?side1 ?side2 A3.out).mono ?_); (case side1 => exact zi101); (case side2 => exact zb); rintro e w38 ⟨rfl, hi, hb, hk⟩; refine ⟨_, rfl, ?_⟩; replace BK127 := tBk BK127 hk NB127_0; replace HK := tKt HK hk; replace HB := Aside0.mk (hb); replace HI0 := Aside0.mk (hi); (try clear hb); (try clear hb2); (try clear hk); (try clear hi)) | ((with_reducible refine gate_callee (f := 51) rfl ?_); refine goesL_ (some 13) rfl rfl Tryd.func51 (by kernel_rfl) rfl #[.pointer (some ⟨g, 0, none⟩), .int .i64 2] rfl tq ?_; (with_reducible refine (spec_l6Rd_pick.calls k g s0_0 t131 2 t132 t133 w0 _ ?side1 ?side2 A4.out).mono ?_); (case side1 => exact zi101); (case side2 => exact zb); rintro e w39 ⟨rfl, hi, hb, hk⟩; refine ⟨_, rfl, ?_⟩; replace BK127 := tBk BK127 hk NB127_0; replace HK := tKt HK hk; replace HB := Aside0.mk (hb); replace HI0 := Aside0.mk (hi); (try clear hb); (try clear hb2); (try clear hk); (try clear hi)) | ((with_reducible refine gate_callee (f := 51) rfl ?_); refine goesL_ (some 15) rfl rfl Tryd.func51 (by kernel_rfl) rfl #[.pointer (some ⟨g, 0, none⟩), .int .i64 100] rfl tq ?_; (with_reducible refine (spec_l6Rd_pick.calls k g s0_0 t133 100 t134 t135 w0 _ ?side1 ?side2 A5.out).mono ?_); (case side1 => exact zi101); (case side2 => exact zb); rintro e w40 ⟨rfl, hi, hb, hk⟩; refine ⟨_, rfl, ?_⟩; replace BK127 := tBk BK127 hk NB127_0; replace HK := tKt HK hk; replace HB := Aside0.mk (hb); replace HI0 := Aside0.mk (hi); (try clear hb); (try clear hb2); (try clear hk); (try clear hi)) | ((with_reducible refine gate_dst (N := 3) rfl ?_); refine box_event ?hg (N := 3) ?hd (cs := #[.int .i64 0, .int .i64 0, .bool false, .slice none 0 0, .bool false, .slice none 0 0]) (t := 25) ?hr ?_; (case hd => rfl); (case hg => rfl); (case hr => first | (go_simp; done) | (go_simp; rfl)); intro gb136 hg w41 hbox hb; replace HB := tBs HB hb; have BK136 := Aside0.mk (hbox); have GW136 := Aside0.mk ((by rw [hg]; exact (keep_size (w := w) (g := g) (row := none) zk) : w.heap.size ≤ gb136)); have GE136 := Aside0.mk ((Nat.le_trans HW0.out (by rw [hg]; exact (keep_size (w := w) (g := g) (row := none) zk) : w.heap.size ≤ gb136) : w0.heap.size ≤ gb136)); replace HK := tKb HK hb; have NB127_136 := tlt BK127 hg; have NB136_127 := tgt BK127 hg; replace BK127 := tBb BK127 hb; have NB0_136 := Aside0.mk ((by rw [hg]; exact Nat.ne_of_lt (IsS101.lt (show IsS101 w0 _ g s0_0 t135 from zi101)) : g ≠ gb136)); have NB136_0 := Aside0.mk ((by rw [hg]; exact Nat.ne_of_gt (IsS101.lt (show IsS101 w0 _ g s0_0 t135 from zi101)) : gb136 ≠ g)); replace HI0 := tIb101 HI0 hb; clear hb hbox hg; have hnb42 := NB136_127.out; have hnc42 := NB127_136.out; have hnb43 := NB136_0.out; have hnc43 := NB0_136.out; obtain ⟨hcz44_0, hcz44_1, hcz44_2, hcz44_3, hcz44_4, hcz44_5, hfz44_0, hfz44_1, hfz44_2, hfz44_3, hfz44_4, hfz44_5⟩ := cells6 BK136.out) | ((with_reducible refine gate_callee (f := 66) rfl ?_); refine goesL_ (some 22) rfl rfl Tryd.func66 (by kernel_rfl) rfl #[.pointer (some ⟨g, 0, none⟩)] rfl tq ?_; (with_reducible refine (spec_l91Part.calls k g s0_0 t135 t137 t138 t141 w0 _ ?side1 ?side2 A6.out).mono ?_); (case side1 => exact zi101); (case side2 => exact zb); rintro e w45 ⟨v139, rfl, ho0, hi, hb, hk⟩; have u_v139 := tsv Tryd.prog v139 ho0; refine ⟨_, rfl, ?_⟩; replace BK127 := tBk BK127 hk NB127_0; replace BK136 := tBq (o' := .cells #[.int .i64 t128, .int .i64 (wrap64 (t130 * (wrap64 (1 + (wrap64 (t132 * t134)))))), .bool false, .slice none 0 0, .bool false, .slice none 0 0] 25 (0, 0)) BK136 hk NB136_0; have HO140 := Aside0.mk (Kd.R_lower ho0 (keep_size (w := w) (g := g) (row := none) zk)); replace HK := tKt HK hk; replace HB := Aside0.mk (hb); replace HI0 := Aside0.mk (hi); (try clear hb); (try clear hb2); (try clear hk); (try clear hi); (try clear ho0)) | ((with_reducible refine gate_callee (f := 66) rfl ?_); refine goesL_ (some 27) rfl rfl Tryd.func66 (by kernel_rfl) rfl #[.pointer (some ⟨g, 0, none⟩)] rfl tq ?_; (with_reducible refine (spec_l91Part.calls k g s0_0 t141 t142 t143 t146 w0 _ ?side1 ?side2 A7.out).mono ?_); (case side1 => exact zi101); (case side2 => exact zb); rintro e w46 ⟨v144, rfl, ho0, hi, hb, hk⟩; have u_v144 := tsv Tryd.prog v144 ho0; refine ⟨_, rfl, ?_⟩; replace BK127 := tBk BK127 hk NB127_0; replace BK136 := tBk BK136 hk NB136_0; have HO145 := Aside0.mk (Kd.R_lower (Kd.R_new' ho0 (Kd.R_lt (tR HO140.out))) (keep_size (w := w) (g := g) (row := none) zk)); replace HO140 := Aside0.mk (Kd.R_mono (Kd.R_told (Kd.R_oldK (IsS101.apart (show IsS101 w0 _ g s0_0 t141 from zi101) (tR HO140.out) (by decide)) hk) (Kd.R_base ho0)) (fun _ h_ => h_.1)); replace HK := tKt HK hk; replace HB := Aside0.mk (hb); replace HI0 := Aside0.mk (hi); (try clear hb); (try clear hb2); (try clear hk); (try clear hi); (try clear ho0); have hcz47_0 : w46.cell? ⟨gb136, 0, none⟩ = some (.int .i64 t128) := (blk_cell BK136.out 0).trans rfl; have hcz47_1 : w46.cell? ⟨gb136, 1, none⟩ = some (.int .i64 (wrap64 (t130 * (wrap64 (1 + (wrap64 (t132 * t134))))))) := (blk_cell BK136.out 1).trans rfl; have hcz47_2 : w46.cell? ⟨gb136, 2, none⟩ = some (.bool false) := (blk_cell BK136.out 2).trans rfl; have hcz47_3 : w46.cell? ⟨gb136, 3, none⟩ = some (.slice none 0 0) := (blk_cell BK136.out 3).trans rfl; have hcz47_4 : w46.cell? ⟨gb136, 4, none⟩ = some (.bool false) := (blk_cell BK136.out 4).trans rfl; have hcz47_5 : w46.cell? ⟨gb136, 5, none⟩ = some (.slice none 0 0) := (blk_cell BK136.out 5).trans rfl; have hfz47_0 := blk_frozen BK136.out 0; have hfz47_1 := blk_frozen BK136.out 1; have hfz47_2 := blk_frozen BK136.out 2; have hfz47_3 := blk_frozen BK136.out 3; have hfz47_4 := blk_frozen BK136.out 4; have hfz47_5 := blk_frozen BK136.out 5; obtain ⟨Ao48, co48, eo48⟩ := Kd.R_slice HO140.out; subst eo48; obtain ⟨Ao49, co49, eo49⟩ := Kd.R_slice HO145.out; subst eo49) | ((with_reducible refine gate_callee (f := 51) rfl ?_); refine goesL_ (some 39) rfl rfl Tryd.func51 (by kernel_rfl) rfl #[.pointer (some ⟨g, 0, none⟩), .int .i64 40] rfl tq ?_; (with_reducible refine (spec_l6Rd_pick.calls k g s0_0 t146 40 t147 t148 w0 _ ?side1 ?side2 A8.out).mono ?_); (case side1 => exact zi101); (case side2 => exact zb); rintro e w50 ⟨rfl, hi, hb, hk⟩; refine ⟨_, rfl, ?_⟩; replace BK127 := tBk BK127 hk NB127_0; replace HO140 := Aside0.mk (Kd.R_mono (Kd.R_keep (IsS101.apart (show IsS101 w0 _ g s0_0 t146 from zi101) (tRt HO140.out BK136.out) (by decide)) hk (fun _ h => h.2)) (fun _ h => h.1)); replace HO145 := Aside0.mk (Kd.R_mono (Kd.R_keep (IsS101.apart (show IsS101 w0 _ g s0_0 t146 from zi101) (tRt HO145.out BK136.out) (by decide)) hk (fun _ h => h.2)) (fun _ h => h.1)); replace BK136 := tBq (o' := .cells #[.int .i64 t128, .int .i64 (wrap64 (t130 * (wrap64 (1 + (wrap64 (t132 * t134)))))), .bool t137, .slice Ao48 t138.length co48, .bool t142, .slice Ao49 t143.length co49] 25 (0, 0)) BK136 hk NB136_0; replace HK := tKt HK hk; replace HB := Aside0.mk (hb); replace HI0 := Aside0.mk (hi); (try clear hb); (try clear hb2); (try clear hk); (try clear hi); have hcz51_0 : w50.cell? ⟨gb136, 0, none⟩ = some (.int .i64 t128) := (blk_cell BK136.out 0).trans rfl; have hcz51_1 : w50.cell? ⟨gb136, 1, none⟩ = some (.int .i64 (wrap64 (t130 * (wrap64 (1 + (wrap64 (t132 * t134))))))) := (blk_cell BK136.out 1).trans rfl; have hcz51_2 : w50.cell? ⟨gb136, 2, none⟩ = some (.bool t137) := (blk_cell BK136.out 2).trans rfl; have hcz51_3 : w50.cell? ⟨gb136, 3, none⟩ = some (.slice Ao48 t138.length co48) := (blk_cell BK136.out 3).trans rfl; have hcz51_4 : w50.cell? ⟨gb136, 4, none⟩ = some (.bool t142) := (blk_cell BK136.out 4).trans rfl; have hcz51_5 : w50.cell? ⟨gb136, 5, none⟩ = some (.slice Ao49 t143.length co49) := (blk_cell BK136.out 5).trans rfl; have hfz51_0 := blk_frozen BK136.out 0; have hfz51_1 := blk_frozen BK136.out 1; have hfz51_2 := blk_frozen BK136.out 2; have hfz51_3 := blk_frozen BK136.out 3; have hfz51_4 := blk_frozen BK136.out 4; have hfz51_5 := blk_frozen BK136.out 5; have hnb52 := NB127_0.out; have hnc52 := NB0_127.out; obtain ⟨hcz53_0, hcz53_1, hcz53_2, hcz53_3, hcz53_4, hcz53_5, hfz53_0, hfz53_1, hfz53_2, hfz53_3, hfz53_4, hfz53_5⟩ := cells6 BK127.out))
   refine bodyPost_ret (results_cell_row rfl _ _ gb127 25 #[.int .i64 t128, .int .i64 (wrap64 (t130 * (wrap64 (1 + (wrap64 (t132 * t134)))))), .bool (!t137), .slice Ao48 t138.length co48, .bool t142, .slice Ao49 t143.length co49] (0, 0) _ rfl (tP BK127.out) Tryd.underlying25 rfl (by kernel_rfl)) rfl ?_
   exact ⟨_, _, by first | rfl | (simp [errW_none, errW_some] <;> rfl) | (simp [*, errW_none, errW_some] <;> rfl), tRm (Kd.R_types (Kd.R_types HO140.out BK136.out (by decide)) BK127.out (by decide)), tRm (Kd.R_types (Kd.R_types HO145.out BK136.out (by decide)) BK127.out (by decide)), zi101, zb, zk⟩
  ·rw [if_neg c35] at H
   have c35b0 : (t147 == 1) = false := beq_eq_false_iff_ne.mpr c35
   have c35b1 : (t147 != 1) = true := bne_iff_ne.mpr c35
   by_cases c54 : t147 = 2
   ·rw [if_pos c54] at H
    have c54b0 : (t147 == 2) = true := beq_iff_eq.mpr c54
    have c54b1 : (t147 != 2) = false := bne_eq_false_iff_eq.mpr c54
    clear c54
    by_cases c55 : t143.length < 17592186044416
    ·rw [if_pos c55] at H
     have LMc55 := Aside0.mk c55
     clear c55
     obtain ⟨y155, hy155⟩ : ∃ y_ : List Int, y_ = (t143 ++ [256]) := ⟨_, rfl⟩
     replace H : (some (t128, wrap64 (t130 * (wrap64 (1 + (wrap64 (t132 * t134))))), t137, t138, t142, y155, t148)) = some (r1, r2, r3, r4, r5, r6, r7) := by first | (rw [hy155]; with_reducible exact H) | (have H2_ := (Option.bind_some _ _).symm.trans H; rw [hy155]; with_reducible exact H2_) | (have H2_ := (Option.bind_some _ _).symm.trans H; with_reducible exact H2_) | with_reducible exact H | (rw [hy155]; exact H) | exact H
     have Ny155 := Aside0.mk hy155
     clear hy155
     simp only [Option.some.injEq, Prod.mk.injEq] at H
     obtain ⟨rfl, rfl, rfl, rfl, rfl, rfl, rfl⟩ := H
     go_enter Tryd.func33, Tryd.ntmps33
     go_wp2_with (first | ((with_reducible refine gate_dst (N := 2) rfl ?_); refine box_event ?hg (N := 2) ?hd (cs := #[.int .i64 0, .int .i64 0, .bool false, .slice none 0 0, .bool false, .slice none 0 0]) (t := 25) ?hr ?_; (case hd => rfl); (case hg => rfl); (case hr => first | (go_simp; done) | (go_simp; rfl)); intro gb127 hg w56 hbox hb; replace HB := tBs HB hb; have BK127 := Aside0.mk (hbox); have GW127 := Aside0.mk ((by rw [hg]; exact (keep_size (w := w) (g := g) (row := none) zk) : w.heap.size ≤ gb127)); have GE127 := Aside0.mk ((Nat.le_trans HW0.out (by rw [hg]; exact (keep_size (w := w) (g := g) (row := none) zk) : w.heap.size ≤ gb127) : w0.heap.size ≤ gb127)); replace HK := tKb HK hb; have NB0_127 := Aside0.mk ((by rw [hg]; exact Nat.ne_of_lt (IsS101.lt (show IsS101 w0 _ g s0_0 s0_1 from zi101)) : g ≠ gb127)); have NB127_0 := Aside0.mk ((by rw [hg]; exact Nat.ne_of_gt (IsS101.lt (show IsS101 w0 _ g s0_0 s0_1 from zi101)) : gb127 ≠ g)); replace HI0 := tIb101 HI0 hb; clear hb hbox hg) | ((with_reducible refine gate_callee (f := 51) rfl ?_); refine goesL_ (some 9) rfl rfl Tryd.func51 (by kernel_rfl) rfl #[.pointer (some ⟨g, 0, none⟩), .int .i64 60] rfl tq ?_; (with_reducible refine (spec_l6Rd_pick.calls k g s0_0 s0_1 60 t128 t129 w0 _ ?side1 ?side2 A2.out).mono ?_); (case side1 => exact zi101); (case side2 => exact zb); rintro e w57 ⟨rfl, hi, hb, hk⟩; refine ⟨_, rfl, ?_⟩; replace BK127 := tBk BK127 hk NB127_0; replace HK := tKt HK hk; replace HB := Aside0.mk (hb); replace HI0 := Aside0.mk (hi); (try clear hb); (try clear hb2); (try clear hk); (try clear hi)) | ((with_reducible refine gate_callee (f := 51) rfl ?_); refine goesL_ (some 11) rfl rfl Tryd.func51 (by kernel_rfl) rfl #[.pointer (some ⟨g, 0, none⟩), .int .i64 250] rfl tq ?_; (with_reducible refine (spec_l6Rd_pick.calls k g s0_0 t129 250 t130 t131 w0 _ ?side1 ?side2 A3.out).mono ?_); (case side1 => exact zi101); (case side2 => exact zb); rintro e w58 ⟨rfl, hi, hb, hk⟩; refine ⟨_, rfl, ?_⟩; replace BK127 := tBk BK127 hk NB127_0; replace HK := tKt HK hk; replace HB := Aside0.mk (hb); replace HI0 := Aside0.mk (hi); (try clear hb); (try clear hb2); (try clear hk); (try clear hi)) | ((with_reducible refine gate_callee (f := 51) rfl ?_); refine goesL_ (some 13) rfl rfl Tryd.func51 (by kernel_rfl) rfl #[.pointer (some ⟨g, 0, none⟩), .int .i64 2] rfl tq ?_; (with_reducible refine (spec_l6Rd_pick.calls k g s0_0 t131 2 t132 t133 w0 _ ?side1 ?side2 A4.out).mono ?_); (case side1 => exact zi101); (case side2 => exact zb); rintro e w59 ⟨rfl, hi, hb, hk⟩; refine ⟨_, rfl, ?_⟩; replace BK127 := tBk BK127 hk NB127_0; replace HK := tKt HK hk; replace HB := Aside0.mk (hb); replace HI0 := Aside0.mk (hi); (try clear hb); (try clear hb2); (try clear hk); (try clear hi)) | ((with_reducible refine gate_callee (f := 51) rfl ?_); refine goesL_ (some 15) rfl rfl Tryd.func51 (by kernel_rfl) rfl #[.pointer (some ⟨g, 0, none⟩), .int .i64 100] rfl tq ?_; (with_reducible refine (spec_l6Rd_pick.calls k g s0_0 t133 100 t134 t135 w0 _ ?side1 ?side2 A5.out).mono ?_); (case side1 => exact zi101); (case side2 => exact zb); rintro e w60 ⟨rfl, hi, hb, hk⟩; refine ⟨_, rfl, ?_⟩; replace BK127 := tBk BK127 hk NB127_0; replace HK := tKt HK hk; replace HB := Aside0.mk (hb); replace HI0 := Aside0.mk (hi); (try clear hb); (try clear hb2); (try clear hk); (try clear hi)) | ((with_reducible refine gate_dst (N := 3) rfl ?_); refine box_event ?hg (N := 3) ?hd (cs := #[.int .i64 0, .int .i64 0, .bool false, .slice none 0 0, .bool false, .slice none 0 0]) (t := 25) ?hr ?_; (case hd => rfl); (case hg => rfl); (case hr => first | (go_simp; done) | (go_simp; rfl)); intro gb136 hg w61 hbox hb; replace HB := tBs HB hb; have BK136 := Aside0.mk (hbox); have GW136 := Aside0.mk ((by rw [hg]; exact (keep_size (w := w) (g := g) (row := none) zk) : w.heap.size ≤ gb136)); have GE136 := Aside0.mk ((Nat.le_trans HW0.out (by rw [hg]; exact (keep_size (w := w) (g := g) (row := none) zk) : w.heap.size ≤ gb136) : w0.heap.size ≤ gb136)); replace HK := tKb HK hb; have NB127_136 := tlt BK127 hg; have NB136_127 := tgt BK127 hg; replace BK127 := tBb BK127 hb; have NB0_136 := Aside0.mk ((by rw [hg]; exact Nat.ne_of_lt (IsS101.lt (show IsS101 w0 _ g s0_0 t135 from zi101)) : g ≠ gb136)); have NB136_0 := Aside0.mk ((by rw [hg]; exact Nat.ne_of_gt (IsS101.lt (show IsS101 w0 _ g s0_0 t135 from zi101)) : gb136 ≠ g)); replace HI0 := tIb101 HI0 hb; clear hb hbox hg; have hnb62 := NB136_127.out; have hnc62 := NB127_136.out; have hnb63 := NB136_0.out; have hnc63 := NB0_136.out; obtain ⟨hcz64_0, hcz64_1, hcz64_2, hcz64_3, hcz64_4, hcz64_5, hfz64_0, hfz64_1, hfz64_2, hfz64_3, hfz64_4, hfz64_5⟩ := cells6 BK136.out) | ((with_reducible refine gate_callee (f := 66) rfl ?_); refine goesL_ (some 22) rfl rfl Tryd.func66 (by kernel_rfl) rfl #[.pointer (some ⟨g, 0, none⟩)] rfl tq ?_; (with_reducible refine (spec_l91Part.calls k g s0_0 t135 t137 t138 t141 w0 _ ?side1 ?side2 A6.out).mono ?_); (case side1 => exact zi101); (case side2 => exact zb); rintro e w65 ⟨v139, rfl, ho0, hi, hb, hk⟩; have u_v139 := tsv Tryd.prog v139 ho0; refine ⟨_, rfl, ?_⟩; replace BK127 := tBk BK127 hk NB127_0; replace BK136 := tBq (o' := .cells #[.int .i64 t128, .int .i64 (wrap64 (t130 * (wrap64 (1 + (wrap64 (t132 * t134)))))), .bool false, .slice none 0 0, .bool false, .slice none 0 0] 25 (0, 0)) BK136 hk NB136_0; have HO140 := Aside0.mk (Kd.R_lower ho0 (keep_size (w := w) (g := g) (row := none) zk)); replace HK := tKt HK hk; replace HB := Aside0.mk (hb); replace HI0 := Aside0.mk (hi); (try clear hb); (try clear hb2); (try clear hk); (try clear hi); (try clear ho0)) | ((with_reducible refine gate_callee (f := 66) rfl ?_); refine goesL_ (some 27) rfl rfl Tryd.func66 (by kernel_rfl) rfl #[.pointer (some ⟨g, 0, none⟩)] rfl tq ?_; (with_reducible refine (spec_l91Part.calls k g s0_0 t141 t142 t143 t146 w0 _ ?side1 ?side2 A7.out).mono ?_); (case side1 => exact zi101); (case side2 => exact zb); rintro e w66 ⟨v144, rfl, ho0, hi, hb, hk⟩; have u_v144 := tsv Tryd.prog v144 ho0; refine ⟨_, rfl, ?_⟩; replace BK127 := tBk BK127 hk NB127_0; replace BK136 := tBk BK136 hk NB136_0; have HO145 := Aside0.mk (Kd.R_lower (Kd.R_new' ho0 (Kd.R_lt (tR HO140.out))) (keep_size (w := w) (g := g) (row := none) zk)); replace HO140 := Aside0.mk (Kd.R_mono (Kd.R_told (Kd.R_oldK (IsS101.apart (show IsS101 w0 _ g s0_0 t141 from zi101) (tR HO140.out) (by decide)) hk) (Kd.R_base ho0)) (fun _ h_ => h_.1)); replace HK := tKt HK hk; replace HB := Aside0.mk (hb); replace HI0 := Aside0.mk (hi); (try clear hb); (try clear hb2); (try clear hk); (try clear hi); (try clear ho0); have hcz67_0 : w66.cell? ⟨gb136, 0, none⟩ = some (.int .i64 t128) := (blk_cell BK136.out 0).trans rfl; have hcz67_1 : w66.cell? ⟨gb136, 1, none⟩ = some (.int .i64 (wrap64 (t130 * (wrap64 (1 + (wrap64 (t132 * t134))))))) := (blk_cell BK136.out 1).trans rfl; have hcz67_2 : w66.cell? ⟨gb136, 2, none⟩ = some (.bool false) := (blk_cell BK136.out 2).trans rfl; have hcz67_3 : w66.cell? ⟨gb136, 3, none⟩ = some (.slice none 0 0) := (blk_cell BK136.out 3).trans rfl; have hcz67_4 : w66.cell? ⟨gb136, 4, none⟩ = some (.bool false) := (blk_cell BK136.out 4).trans rfl; have hcz67_5 : w66.cell? ⟨gb136, 5, none⟩ = some (.slice none 0 0) := (blk_cell BK136.out 5).trans rfl; have hfz67_0 := blk_frozen BK136.out 0; have hfz67_1 := blk_frozen BK136.out 1; have hfz67_2 := blk_frozen BK136.out 2; have hfz67_3 := blk_frozen BK136.out 3; have hfz67_4 := blk_frozen BK136.out 4; have hfz67_5 := blk_frozen BK136.out 5; obtain ⟨Ao68, co68, eo68⟩ := Kd.R_slice HO140.out; subst eo68; obtain ⟨Ao69, co69, eo69⟩ := Kd.R_slice HO145.out; subst eo69) | ((with_reducible refine gate_callee (f := 51) rfl ?_); refine goesL_ (some 39) rfl rfl Tryd.func51 (by kernel_rfl) rfl #[.pointer (some ⟨g, 0, none⟩), .int .i64 40] rfl tq ?_; (with_reducible refine (spec_l6Rd_pick.calls k g s0_0 t146 40 t147 t148 w0 _ ?side1 ?side2 A8.out).mono ?_); (case side1 => exact zi101); (case side2 => exact zb); rintro e w70 ⟨rfl, hi, hb, hk⟩; refine ⟨_, rfl, ?_⟩; replace BK127 := tBk BK127 hk NB127_0; replace HO140 := Aside0.mk (Kd.R_mono (Kd.R_keep (IsS101.apart (show IsS101 w0 _ g s0_0 t146 from zi101) (tRt HO140.out BK136.out) (by decide)) hk (fun _ h => h.2)) (fun _ h => h.1)); replace HO145 := Aside0.mk (Kd.R_mono (Kd.R_keep (IsS101.apart (show IsS101 w0 _ g s0_0 t146 from zi101) (tRt HO145.out BK136.out) (by decide)) hk (fun _ h => h.2)) (fun _ h => h.1)); replace BK136 := tBq (o' := .cells #[.int .i64 t128, .int .i64 (wrap64 (t130 * (wrap64 (1 + (wrap64 (t132 * t134)))))), .bool t137, .slice Ao68 t138.length co68, .bool t142, .slice Ao69 t143.length co69] 25 (0, 0)) BK136 hk NB136_0; replace HK := tKt HK hk; replace HB := Aside0.mk (hb); replace HI0 := Aside0.mk (hi); (try clear hb); (try clear hb2); (try clear hk); (try clear hi); have hcz71_0 : w70.cell? ⟨gb136, 0, none⟩ = some (.int .i64 t128) := (blk_cell BK136.out 0).trans rfl; have hcz71_1 : w70.cell? ⟨gb136, 1, none⟩ = some (.int .i64 (wrap64 (t130 * (wrap64 (1 + (wrap64 (t132 * t134))))))) := (blk_cell BK136.out 1).trans rfl; have hcz71_2 : w70.cell? ⟨gb136, 2, none⟩ = some (.bool t137) := (blk_cell BK136.out 2).trans rfl; have hcz71_3 : w70.cell? ⟨gb136, 3, none⟩ = some (.slice Ao68 t138.length co68) := (blk_cell BK136.out 3).trans rfl; have hcz71_4 : w70.cell? ⟨gb136, 4, none⟩ = some (.bool t142) := (blk_cell BK136.out 4).trans rfl; have hcz71_5 : w70.cell? ⟨gb136, 5, none⟩ = some (.slice Ao69 t143.length co69) := (blk_cell BK136.out 5).trans rfl; have hfz71_0 := blk_frozen BK136.out 0; have hfz71_1 := blk_frozen BK136.out 1; have hfz71_2 := blk_frozen BK136.out 2; have hfz71_3 := blk_frozen BK136.out 3; have hfz71_4 := blk_frozen BK136.out 4; have hfz71_5 := blk_frozen BK136.out 5) | ((with_reducible refine gate_builtin (b := .append) (xs := #[.tmp 57, .tmp 58]) rfl ?_); at_builtin; refine Kd.R_append (Kd.int .i64) w.heap.size rfl (.tmp 57) (.tmp 58) 23 3 (.int .i64 0) 8 rfl Tryd.underlying23 info3 rfl (by decide) (by omega) (.slice Ao69 t143.length co69) t143 256 [.int .i64 256] (fun k_ => some k_ ≠ (.slice Ao68 t138.length co68 : Value).ownBlock) (fun _ => False) rfl rfl ?aP (fun _ hk => hk.elim) ?aF ?aO (Below.refl _ _) ?aS ?aL ?_; (case aP => exact rfl); (case aF => exact (fun k_ hk => Kd.fresh' (Kd.R_lt (tR HO140.out)) k_ hk)); (case aO => exact (tRm HO145.out)); (case aS => exact (keep_size (w := w) (g := g) (row := none) zk)); (case aL => have := LMc55.out; omega); intro v156 w72 ho hb hg hat; rw [← Ny155.out] at ho; replace BK127 := Aside0.mk (blk_grown (tH BK127.out) hg (Kd.R_ne HO145.out BK127.out (by decide))); replace BK136 := Aside0.mk (blk_grown (tH BK136.out) hg (Kd.R_ne HO145.out BK136.out (by decide))); replace HO140 := Aside0.mk (Kd.R_after (ok := (fun _ => True)) (tR HO140.out) hg hat); replace HB := Aside0.mk (below_weaken zb HL.out hb); replace HI0 := Aside0.mk (IsS101.grown zi101 hg (IsS101.own_ne HI0.out HO145.out (by decide))); replace HK := Aside0.mk (KeepBut.trans zk (KeepBut.of_grown hg g) (Kd.R_base2 HO145.out)); have HO157 := Aside0.mk (ho); clear HO145; clear ho hb hg hat; obtain ⟨Ao73, co73, eo73⟩ := Kd.R_slice HO157.out; subst eo73; have hcz74_0 : w72.cell? ⟨gb136, 0, none⟩ = some (.int .i64 t128) := (blk_cell BK136.out 0).trans rfl; have hcz74_1 : w72.cell? ⟨gb136, 1, none⟩ = some (.int .i64 (wrap64 (t130 * (wrap64 (1 + (wrap64 (t132 * t134))))))) := (blk_cell BK136.out 1).trans rfl; have hcz74_2 : w72.cell? ⟨gb136, 2, none⟩ = some (.bool t137) := (blk_cell BK136.out 2).trans rfl; have hcz74_3 : w72.cell? ⟨gb136, 3, none⟩ = some (.slice Ao68 t138.length co68) := (blk_cell BK136.out 3).trans rfl; have hcz74_4 : w72.cell? ⟨gb136, 4, none⟩ = some (.bool t142) := (blk_cell BK136.out 4).trans rfl; have hcz74_5 : w72.cell? ⟨gb136, 5, none⟩ = some (.slice Ao69 t143.length co69) := (blk_cell BK136.out 5).trans rfl; have hfz74_0 := blk_frozen BK136.out 0; have hfz74_1 := blk_frozen BK136.out 1; have hfz74_2 := blk_frozen BK136.out 2; have hfz74_3 := blk_frozen BK136.out 3; have hfz74_4 := blk_frozen BK136.out 4; have hfz74_5 := blk_frozen BK136.out 5; have hnb75 := NB127_0.out; have hnc75 := NB0_127.out; obtain ⟨hcz76_0, hcz76_1, hcz76_2, hcz76_3, hcz76_4, hcz76_5, hfz76_0, hfz76_1, hfz76_2, hfz76_3, hfz76_4, hfz76_5⟩ := cells6 BK127.out))
     refine bodyPost_ret (results_cell_row rfl _ _ gb127 25 #[.int .i64 t128, .int .i64 (wrap64 (t130 * (wrap64 (1 + (wrap64 (t132 * t134)))))), .bool t137, .slice Ao68 t138.length co68, .bool t142, .slice Ao73 y155.length co73] (0, 0) _ rfl (tP BK127.out) Tryd.underlying25 rfl (by kernel_rfl)) rfl ?_
     exact ⟨_, _, by first | rfl | (simp [errW_none, errW_some] <;> rfl) | (simp [*, errW_none, errW_some] <;> rfl), tRm (Kd.R_types (Kd.R_types HO140.out BK136.out (by decide)) BK127.out (by decide)), tRm (Kd.R_types (Kd.R_types HO157.out BK136.out (by decide)) BK127.out (by decide)), zi101, zb, zk⟩
    ·rw [if_neg c55] at H
     exact absurd H (by simp)
   ·rw [if_neg c54] at H
    have c54b0 : (t147 == 2) = false := beq_eq_false_iff_ne.mpr c54
    have c54b1 : (t147 != 2) = true := bne_iff_ne.mpr c54
    simp only [Option.some.injEq, Prod.mk.injEq] at H
    obtain ⟨rfl, rfl, rfl, rfl, rfl, rfl, rfl⟩ := H
    go_enter Tryd.func33, Tryd.ntmps33
    go_wp2_with (first | ((with_reducible refine gate_dst (N := 2) rfl ?_); refine box_event ?hg (N := 2) ?hd (cs := #[.int .i64 0, .int .i64 0, .bool false, .slice none 0 0, .bool false, .slice none 0 0]) (t := 25) ?hr ?_; (case hd => rfl); (case hg => rfl); (case hr => first | (go_simp; done) | (go_simp; rfl)); intro gb127 hg w77 hbox hb; replace HB := tBs HB hb; have BK127 := Aside0.mk (hbox); have GW127 := Aside0.mk ((by rw [hg]; exact (keep_size (w := w) (g := g) (row := none) zk) : w.heap.size ≤ gb127)); have GE127 := Aside0.mk ((Nat.le_trans HW0.out (by rw [hg]; exact (keep_size (w := w) (g := g) (row := none) zk) : w.heap.size ≤ gb127) : w0.heap.size ≤ gb127)); replace HK := tKb HK hb; have NB0_127 := Aside0.mk ((by rw [hg]; exact Nat.ne_of_lt (IsS101.lt (show IsS101 w0 _ g s0_0 s0_1 from zi101)) : g ≠ gb127)); have NB127_0 := Aside0.mk ((by rw [hg]; exact Nat.ne_of_gt (IsS101.lt (show IsS101 w0 _ g s0_0 s0_1 from zi101)) : gb127 ≠ g)); replace HI0 := tIb101 HI0 hb; clear hb hbox hg) | ((with_reducible refine gate_callee (f := 51) rfl ?_); refine goesL_ (some 9) rfl rfl Tryd.func51 (by kernel_rfl) rfl #[.pointer (some ⟨g, 0, none⟩), .int .i64 60] rfl tq ?_; (with_reducible refine (spec_l6Rd_pick.calls k g s0_0 s0_1 60 t128 t129 w0 _ ?side1 ?side2 A2.out).mono ?_); (case side1 => exact zi101); (case side2 => exact zb); rintro e w78 ⟨rfl, hi, hb, hk⟩; refine ⟨_, rfl, ?_⟩; replace BK127 := tBk BK127 hk NB127_0; replace HK := tKt HK hk; replace HB := Aside0.mk (hb); replace HI0 := Aside0.mk (hi); (try clear hb); (try clear hb2); (try clear hk); (try clear hi)) | ((with_reducible refine gate_callee (f := 51) rfl ?_); refine goesL_ (some 11) rfl rfl Tryd.func51 (by kernel_rfl) rfl #[.pointer (some ⟨g, 0, none⟩), .int .i64 250] rfl tq ?_; (with_reducible refine (spec_l6Rd_pick.calls k g s0_0 t129 250 t130 t131 w0 _ ?side1 ?side2 A3.out).mono ?_); (case side1 => exact zi101); (case side2 => exact zb); rintro e w79 ⟨rfl, hi, hb, hk⟩; refine ⟨_, rfl, ?_⟩; replace BK127 := tBk BK127 hk NB127_0; replace HK := tKt HK hk; replace HB := Aside0.mk (hb); replace HI0 := Aside0.mk (hi); (try clear hb); (try clear hb2); (try clear hk); (try clear hi)) | ((with_reducible refine gate_callee (f := 51) rfl ?_); refine goesL_ (some 13) rfl rfl Tryd.func51 (by kernel_rfl) rfl #[.pointer (some ⟨g, 0, none⟩), .int .i64 2] rfl tq ?_; (with_reducible refine (spec_l6Rd_pick.calls k g s0_0 t131 2 t132 t133 w0 _ ?side1 ?side2 A4.out).mono ?_); (case side1 => exact zi101); (case side2 => exact zb); rintro e w80 ⟨rfl, hi, hb, hk⟩; refine ⟨_, rfl, ?_⟩; replace BK127 := tBk BK127 hk NB127_0; replace HK := tKt HK hk; replace HB := Aside0.mk (hb); replace HI0 := Aside0.mk (hi); (try clear hb); (try clear hb2); (try clear hk); (try clear hi)) | ((with_reducible refine gate_callee (f := 51) rfl ?_); refine goesL_ (some 15) rfl rfl Tryd.func51 (by kernel_rfl) rfl #[.pointer (some ⟨g, 0, none⟩), .int .i64 100] rfl tq ?_; (with_reducible refine (spec_l6Rd_pick.calls k g s0_0 t133 100 t134 t135 w0 _ ?side1 ?side2 A5.out).mono ?_); (case side1 => exact zi101); (case side2 => exact zb); rintro e w81 ⟨rfl, hi, hb, hk⟩; refine ⟨_, rfl, ?_⟩; replace BK127 := tBk BK127 hk NB127_0; replace HK := tKt HK hk; replace HB := Aside0.mk (hb); replace HI0 := Aside0.mk (hi); (try clear hb); (try clear hb2); (try clear hk); (try clear hi)) | ((with_reducible refine gate_dst (N := 3) rfl ?_); refine box_event ?hg (N := 3) ?hd (cs := #[.int .i64 0, .int .i64 0, .bool false, .slice none 0 0, .bool false, .slice none 0 0]) (t := 25) ?hr ?_; (case hd => rfl); (case hg => rfl); (case hr => first | (go_simp; done) | (go_simp; rfl)); intro gb136 hg w82 hbox hb; replace HB := tBs HB hb; have BK136 := Aside0.mk (hbox); have GW136 := Aside0.mk ((by rw [hg]; exact (keep_size (w := w) (g := g) (row := none) zk) : w.heap.size ≤ gb136)); have GE136 := Aside0.mk ((Nat.le_trans HW0.out (by rw [hg]; exact (keep_size (w := w) (g := g) (row := none) zk) : w.heap.size ≤ gb136) : w0.heap.size ≤ gb136)); replace HK := tKb HK hb; have NB127_136 := tlt BK127 hg; have NB136_127 := tgt BK127 hg; replace BK127 := tBb BK127 hb; have NB0_136 := Aside0.mk ((by rw [hg]; exact Nat.ne_of_lt (IsS101.lt (show IsS101 w0 _ g s0_0 t135 from zi101)) : g ≠ gb136)); have NB136_0 := Aside0.mk ((by rw [hg]; exact Nat.ne_of_gt (IsS101.lt (show IsS101 w0 _ g s0_0 t135 from zi101)) : gb136 ≠ g)); replace HI0 := tIb101 HI0 hb; clear hb hbox hg; have hnb83 := NB136_127.out; have hnc83 := NB127_136.out; have hnb84 := NB136_0.out; have hnc84 := NB0_136.out; obtain ⟨hcz85_0, hcz85_1, hcz85_2, hcz85_3, hcz85_4, hcz85_5, hfz85_0, hfz85_1, hfz85_2, hfz85_3, hfz85_4, hfz85_5⟩ := cells6 BK136.out) | ((with_reducible refine gate_callee (f := 66) rfl ?_); refine goesL_ (some 22) rfl rfl Tryd.func66 (by kernel_rfl) rfl #[.pointer (some ⟨g, 0, none⟩)] rfl tq ?_; (with_reducible refine (spec_l91Part.calls k g s0_0 t135 t137 t138 t141 w0 _ ?side1 ?side2 A6.out).mono ?_); (case side1 => exact zi101); (case side2 => exact zb); rintro e w86 ⟨v139, rfl, ho0, hi, hb, hk⟩; have u_v139 := tsv Tryd.prog v139 ho0; refine ⟨_, rfl, ?_⟩; replace BK127 := tBk BK127 hk NB127_0; replace BK136 := tBq (o' := .cells #[.int .i64 t128, .int .i64 (wrap64 (t130 * (wrap64 (1 + (wrap64 (t132 * t134)))))), .bool false, .slice none 0 0, .bool false, .slice none 0 0] 25 (0, 0)) BK136 hk NB136_0; have HO140 := Aside0.mk (Kd.R_lower ho0 (keep_size (w := w) (g := g) (row := none) zk)); replace HK := tKt HK hk; replace HB := Aside0.mk (hb); replace HI0 := Aside0.mk (hi); (try clear hb); (try clear hb2); (try clear hk); (try clear hi); (try clear ho0)) | ((with_reducible refine gate_callee (f := 66) rfl ?_); refine goesL_ (some 27) rfl rfl Tryd.func66 (by kernel_rfl) rfl #[.pointer (some ⟨g, 0, none⟩)] rfl tq ?_; (with_reducible refine (spec_l91Part.calls k g s0_0 t141 t142 t143 t146 w0 _ ?side1 ?side2 A7.out).mono ?_); (case side1 => exact zi101); (case side2 => exact zb); rintro e w87 ⟨v144, rfl, ho0, hi, hb, hk⟩; have u_v144 := tsv Tryd.prog v144 ho0; refine ⟨_, rfl, ?_⟩; replace BK127 := tBk BK127 hk NB127_0; replace BK136 := tBk BK136 hk NB136_0; have HO145 := Aside0.mk (Kd.R_lower (Kd.R_new' ho0 (Kd.R_lt (tR HO140.out))) (keep_size (w := w) (g := g) (row := none) zk)); replace HO140 := Aside0.mk (Kd.R_mono (Kd.R_told (Kd.R_oldK (IsS101.apart (show IsS101 w0 _ g s0_0 t141 from zi101) (tR HO140.out) (by decide)) hk) (Kd.R_base ho0)) (fun _ h_ => h_.1)); replace HK := tKt HK hk; replace HB := Aside0.mk (hb); replace HI0 := Aside0.mk (hi); (try clear hb); (try clear hb2); (try clear hk); (try clear hi); (try clear ho0); have hcz88_0 : w87.cell? ⟨gb136, 0, none⟩ = some (.int .i64 t128) := (blk_cell BK136.out 0).trans rfl; have hcz88_1 : w87.cell? ⟨gb136, 1, none⟩ = some (.int .i64 (wrap64 (t130 * (wrap64 (1 + (wrap64 (t132 * t134))))))) := (blk_cell BK136.out 1).trans rfl; have hcz88_2 : w87.cell? ⟨gb136, 2, none⟩ = some (.bool false) := (blk_cell BK136.out 2).trans rfl; have hcz88_3 : w87.cell? ⟨gb136, 3, none⟩ = some (.slice none 0 0) := (blk_cell BK136.out 3).trans rfl; have hcz88_4 : w87.cell? ⟨gb136, 4, none⟩ = some (.bool false) := (blk_cell BK136.out 4).trans rfl; have hcz88_5 : w87.cell? ⟨gb136, 5, none⟩ = some (.slice none 0 0) := (blk_cell BK136.out 5).trans rfl; have hfz88_0 := blk_frozen BK136.out 0; have hfz88_1 := blk_frozen BK136.out 1; have hfz88_2 := blk_frozen BK136.out 2; have hfz88_3 := blk_frozen BK136.out 3; have hfz88_4 := blk_frozen BK136.out 4; have hfz88_5 := blk_frozen BK136.out 5; obtain ⟨Ao89, co89, eo89⟩ := Kd.R_slice HO140.out; subst eo89; obtain ⟨Ao90, co90, eo90⟩ := Kd.R_slice HO145.out; subst eo90) | ((with_reducible refine gate_callee (f := 51) rfl ?_); refine goesL_ (some 39) rfl rfl Tryd.func51 (by kernel_rfl) rfl #[.pointer (some ⟨g, 0, none⟩), .int .i64 40] rfl tq ?_; (with_reducible refine (spec_l6Rd_pick.calls k g s0_0 t146 40 t147 t148 w0 _ ?side1 ?side2 A8.out).mono ?_); (case side1 => exact zi101); (case side2 => exact zb); rintro e w91 ⟨rfl, hi, hb, hk⟩; refine ⟨_, rfl, ?_⟩; replace BK127 := tBk BK127 hk NB127_0; replace HO140 := Aside0.mk (Kd.R_mono (Kd.R_keep (IsS101.apart (show IsS101 w0 _ g s0_0 t146 from zi101) (tRt HO140.out BK136.out) (by decide)) hk (fun _ h => h.2)) (fun _ h => h.1)); replace HO145 := Aside0.mk (Kd.R_mono (Kd.R_keep (IsS101.apart (show IsS101 w0 _ g s0_0 t146 from zi101) (tRt HO145.out BK136.out) (by decide)) hk (fun _ h => h.2)) (fun _ h => h.1)); replace BK136 := tBq (o' := .cells #[.int .i64 t128, .int .i64 (wrap64 (t130 * (wrap64 (1 + (wrap64 (t132 * t134)))))), .bool t137, .slice Ao89 t138.length co89, .bool t142, .slice Ao90 t143.length co90] 25 (0, 0)) BK136 hk NB136_0; replace HK := tKt HK hk; replace HB := Aside0.mk (hb); replace HI0 := Aside0.mk (hi); (try clear hb); (try clear hb2); (try clear hk); (try clear hi); have hcz92_0 : w91.cell? ⟨gb136, 0, none⟩ = some (.int .i64 t128) := (blk_cell BK136.out 0).trans rfl; have hcz92_1 : w91.cell? ⟨gb136, 1, none⟩ = some (.int .i64 (wrap64 (t130 * (wrap64 (1 + (wrap64 (t132 * t134))))))) := (blk_cell BK136.out 1).trans rfl; have hcz92_2 : w91.cell? ⟨gb136, 2, none⟩ = some (.bool t137) := (blk_cell BK136.out 2).trans rfl; have hcz92_3 : w91.cell? ⟨gb136, 3, none⟩ = some (.slice Ao89 t138.length co89) := (blk_cell BK136.out 3).trans rfl; have hcz92_4 : w91.cell? ⟨gb136, 4, none⟩ = some (.bool t142) := (blk_cell BK136.out 4).trans rfl; have hcz92_5 : w91.cell? ⟨gb136, 5, none⟩ = some (.slice Ao90 t143.length co90) := (blk_cell BK136.out 5).trans rfl; have hfz92_0 := blk_frozen BK136.out 0; have hfz92_1 := blk_frozen BK136.out 1; have hfz92_2 := blk_frozen BK136.out 2; have hfz92_3 := blk_frozen BK136.out 3; have hfz92_4 := blk_frozen BK136.out 4; have hfz92_5 := blk_frozen BK136.out 5; have hnb93 := NB127_0.out; have hnc93 := NB0_127.out; obtain ⟨hcz94_0, hcz94_1, hcz94_2, hcz94_3, hcz94_4, hcz94_5, hfz94_0, hfz94_1, hfz94_2, hfz94_3, hfz94_4, hfz94_5⟩ := cells6 BK127.out))
    refine bodyPost_ret (results_cell_row rfl _ _ gb127 25 #[.int .i64 t128, .int .i64 (wrap64 (t130 * (wrap64 (1 + (wrap64 (t132 * t134)))))), .bool t137, .slice Ao89 t138.length co89, .bool t142, .slice Ao90 t143.length co90] (0, 0) _ rfl (tP BK127.out) Tryd.underlying25 rfl (by kernel_rfl)) rfl ?_
    exact ⟨_, _, by first | rfl | (simp [errW_none, errW_some] <;> rfl) | (simp [*, errW_none, errW_some] <;> rfl), tRm (Kd.R_types HO140.out BK127.out (by decide)), tRm (Kd.R_types HO145.out BK127.out (by decide)), zi101, zb, zk⟩

def spec_l6Open.f (l0 : List Int) : Option (List Int × Int) := if (l0.length : Int) > 2000 then (if 2000 ≤ (l0.length : Int) then (some (l0.take 2000, 0)) else (none)) else (some (l0, 0))
set_option maxHeartbeats 8000000 in
set_option maxRecDepth 100000 in
theorem spec_l6Open.calls (A0 : Option Addr) (c0 : Nat) (l0 : List Int) (r1 : List Int) (r2 : Int) (w0 w : World) (hB : Below w0.heap.size w0 w) (hr0 : Kd.C (Kd.int .u8) w0 A0 l0.length l0) (hc0 : l0.length ≤ c0) (h : spec_l6Open.f l0 = some (r1, r2)) :
  Calls Tryd.prog 34 #[.slice A0 l0.length c0] w fun e w' => ∃ g_ : Nat, e = .returned (.pointer (some ⟨g_, 0, none⟩)) ∧ IsS101 w0 w' g_ r1 r2 ∧ Below w0.heap.size w0 w' ∧ Below w.heap.size w w' := by
 have hu101 := Tryd.underlying101
 have HR0 := Aside0.mk hr0
 have HC0 := Aside0.mk hc0
 clear hr0 hc0
 have HBW := Aside0.mk (Below.refl w.heap.size w)
 have HW0 := Aside0.mk hB.size
 have HB := Aside0.mk hB
 clear hB
 have H : (if (l0.length : Int) > 2000 then (if 2000 ≤ (l0.length : Int) then (some (l0.take 2000, 0)) else (none)) else (some (l0, 0))) = some (r1, r2) := h
 clear h
 by_cases c2 : (l0.length : Int) > 2000
 ·rw [if_pos c2] at H
  have c2b0 : decide (2000 < (l0.length : Int)) = true := decide_eq_true c2
  have c2b1 : decide (2000 < l0.length) = true := decide_eq_true (by omega)
  clear c2
  by_cases c3 : 2000 ≤ (l0.length : Int)
  ·rw [if_pos c3] at H
   have c3b0 := eq_true c3
   have c3b1 : decide (2000 ≤ (l0.length : Int)) = true := decide_eq_true c3
   clear c3
   simp only [Option.some.injEq, Prod.mk.injEq] at H
   obtain ⟨rfl, rfl⟩ := H
   obtain ⟨i04, hi04, _, hsz4, _⟩ := info_parts info5
   obtain ⟨hcut4, hA4, hC4⟩ := print_take_of (P := Tryd.prog) (Value.int .u8) 0 22 5 .i64 Tryd.underlying22 hi04 hsz4 A0 c0 l0 2000 (by omega) (td) HC0.out
   have HR158 := Aside0.mk (Kd.C_of_reads (h1 := fun _ => rfl) (hA4 _ (Kd.reads_of_C HR0.out)))
   have HC158 := Aside0.mk hC4
   clear hA4 hC4 hi04 hsz4
   go_enter Tryd.func34, Tryd.ntmps34
   go_wp2_with (first | ((with_reducible refine gate_dst (N := 10) rfl ?_); refine box_event ?hg (N := 10) ?hd (cs := #[.slice A0 (l0.take 2000).length c0, .int .i64 0]) (t := 101) ?hr ?_; (case hd => rfl); (case hg => rfl); (case hr => first | (go_simp; done) | (go_simp; rfl)); intro gb159 hg w5 hbox hb; replace HB := tBs HB hb; have BK159 := Aside0.mk (hbox); have GW159 := Aside0.mk ((by rw [hg]; exact (below_size (by repeat (first | (with_reducible first | exact HBW.out | apply below_alloc | apply pw_below_drewN | apply below_drew1) | exact HBW.out))) : w.heap.size ≤ gb159)); have GE159 := Aside0.mk ((Nat.le_trans HW0.out (by rw [hg]; exact (below_size (by repeat (first | (with_reducible first | exact HBW.out | apply below_alloc | apply pw_below_drewN | apply below_drew1) | exact HBW.out))) : w.heap.size ≤ gb159) : w0.heap.size ≤ gb159)); replace HBW := Aside0.mk (below_step HBW.out hb); clear hb hbox hg))
   go_ret
   exact ⟨_, rfl, (show IsS101 w0 _ gb159 (l0.take 2000) 0 from ⟨_, _, tH BK159.out, GE159.out, HR158.out⟩), zb, by repeat (first | (with_reducible first | exact HBW.out | apply below_alloc | apply pw_below_drewN | apply below_drew1 | refine below_set ?_ GW159.out) | exact HBW.out)⟩
  ·rw [if_neg c3] at H
   exact absurd H (by simp)
 ·rw [if_neg c2] at H
  have c2b0 : decide (2000 < (l0.length : Int)) = false := decide_eq_false c2
  have c2b1 : decide (2000 < l0.length) = false := decide_eq_false (by omega)
  clear c2
  simp only [Option.some.injEq, Prod.mk.injEq] at H
  obtain ⟨rfl, rfl⟩ := H
  go_enter Tryd.func34, Tryd.ntmps34
  go_wp2_with (first | ((with_reducible refine gate_dst (N := 10) rfl ?_); refine box_event ?hg (N := 10) ?hd (cs := #[.slice A0 l0.length c0, .int .i64 0]) (t := 101) ?hr ?_; (case hd => rfl); (case hg => rfl); (case hr => first | (go_simp; done) | (go_simp; rfl)); intro gb160 hg w6 hbox hb; replace HB := tBs HB hb; have BK160 := Aside0.mk (hbox); have GW160 := Aside0.mk ((by rw [hg]; exact (below_size (by repeat (first | (with_reducible first | exact HBW.out | apply below_alloc | apply pw_below_drewN | apply below_drew1) | exact HBW.out))) : w.heap.size ≤ gb160)); have GE160 := Aside0.mk ((Nat.le_trans HW0.out (by rw [hg]; exact (below_size (by repeat (first | (with_reducible first | exact HBW.out | apply below_alloc | apply pw_below_drewN | apply below_drew1) | exact HBW.out))) : w.heap.size ≤ gb160) : w0.heap.size ≤ gb160)); replace HBW := Aside0.mk (below_step HBW.out hb); clear hb hbox hg))
  go_ret
  exact ⟨_, rfl, (show IsS101 w0 _ gb160 l0 0 from ⟨_, _, tH BK160.out, GE160.out, HR0.out⟩), zb, by repeat (first | (with_reducible first | exact HBW.out | apply below_alloc | apply pw_below_drewN | apply below_drew1 | refine below_set ?_ GW160.out) | exact HBW.out)⟩

end Go.Proofs.YteoicjlhkaljbaaDoor.G

