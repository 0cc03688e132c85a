/- A text of seat Ythoioccmnphfgaa: what the law FnKeep needs of this repo's texts (by pack.py). Not trusted: Lean checks it. -/
import Derived.Test.YthoioccmnphfgaaKFnKeep6
namespace Go.Proofs.Ythoioccmnphfgaa.G
open Go.RowKit Go.Proofs.YthoioccmnphfgaaW.PrintWords Go.Proofs.YthoioccmnphfgaaW.PrintLast Go.Proofs.YthoioccmnphfgaaW.PrintMore
attribute [local go_sem] max2_int min2_int max_two min_two max_three min_three max_four min_four   -- for this text's walks alone
set_option linter.unusedVariables false
set_option linter.unusedSimpArgs false

def IsS65 (w0 W : World) (g : Nat) (f0 : List Int) (f1 : Int) : Prop := ∃ A0 c0, W.heap[g]? = some (.cells #[.slice A0 f0.length c0, .int .i64 f1] 65 (0, 0)) ∧ w0.heap.size ≤ g ∧ Kd.C (Kd.int .u8) w0 A0 f0.length f0
theorem IsS65.grown {w0 W : World} {g : Nat} {f0 : List Int} {f1 : Int} {W1 : World} {row : Option Nat} (h : IsS65 w0 W g f0 f1) (hw : W.grownBy W1 row) (hne : some g ≠ row) : IsS65 w0 W1 g f0 f1 := by
 obtain ⟨A0, c0, hb, hg, hr0⟩ := h
 exact ⟨A0, c0, blk_grown hb hw hne, hg, hr0⟩
theorem IsS65.own_neN {w0 W : World} {g : Nat} {f0 : List Int} {f1 : Int} {α : Type} {d : Kd α} {e : Nat} {base : Nat} {ok : Nat → Prop} {v : Value} {xs : List α} (h : IsS65 w0 W g f0 f1) (ho : Kd.N d e W base ok v xs) (ht : e ≠ 65) : some g ≠ v.ownBlock := by
 obtain ⟨A0, c0, hb, hg, hr0⟩ := h
 exact Kd.N_ne ho hb ht
theorem IsS65.fresh {w0 W : World} {g : Nat} {f0 : List Int} {f1 : Int} (h : IsS65 w0 W g f0 f1) : ∀ k, W.heap.size ≤ k → k ≠ g := by
 obtain ⟨A0, c0, hb, hg, hr0⟩ := h
 exact Kd.freshB hb
theorem IsS65.kept {w0 W : World} {g : Nat} {f0 : List Int} {f1 : Int} {W1 : World} {S : Nat → Prop} (h : IsS65 w0 W g f0 f1) (hk : Kept W W1 S) (hne : ¬ S g) : IsS65 w0 W1 g f0 f1 := by
 obtain ⟨A0, c0, hb, hg, hr0⟩ := h
 exact ⟨A0, c0, blk_kept hb hk hne, hg, hr0⟩
theorem IsS65.below {w0 W : World} {g : Nat} {f0 : List Int} {f1 : Int} {W1 : World} (h : IsS65 w0 W g f0 f1) (hw : Below W.heap.size W W1) : IsS65 w0 W1 g f0 f1 := h.grown (grown_of_below hw none) (by simp)
theorem IsS65.alloc {w0 W : World} {g : Nat} {f0 : List Int} {f1 : Int} (h : IsS65 w0 W g f0 f1) (o : Obj) : IsS65 w0 (W.alloc o) g f0 f1 := h.below (below_alloc (Below.refl _ _) o)
theorem IsS65.drewN {w0 W : World} {g : Nat} {f0 : List Int} {f1 : Int} (h : IsS65 w0 W g f0 f1) (m : Nat) : IsS65 w0 (W.drewN m) g f0 f1 := h
theorem IsS65.drew {w0 W : World} {g : Nat} {f0 : List Int} {f1 : Int} (h : IsS65 w0 W g f0 f1) : IsS65 w0 W.drew g f0 f1 := h
theorem IsS65.at_ {w0 W : World} {g : Nat} {f0 : List Int} {f1 : Int} {w' : World} {m : Nat} (hq : W.drewN m = w') (h : IsS65 w0 W g f0 f1) : IsS65 w0 w' g f0 f1 := by subst hq; exact IsS65.drewN h m
theorem IsS65.apart {w0 W : World} {g : Nat} {f0 : List Int} {f1 : Int} {α : Type} {d : Kd α} {e : Nat} {base : Nat} {ok : Nat → Prop} {v : Value} {xs : List α} (h : IsS65 w0 W g f0 f1) (ho : d.R e W base ok v xs) (ht : ∀ q, q ∈ e :: d.E → q ≠ 65) : d.R e W base (fun k => ok k ∧ k ≠ g) v xs := by
 obtain ⟨A0, c0, hb, hg, hr0⟩ := h
 exact Kd.R_types ho hb ht
theorem IsS65.own_ne {w0 W : World} {g : Nat} {f0 : List Int} {f1 : Int} {α : Type} {d : Kd α} {e : Nat} {base : Nat} {ok : Nat → Prop} {v : Value} {xs : List α} (h : IsS65 w0 W g f0 f1) (ho : d.R e W base ok v xs) (ht : e ≠ 65) : some g ≠ v.ownBlock := by
 obtain ⟨A0, c0, hb, hg, hr0⟩ := h
 exact Kd.R_ne ho hb ht
theorem IsS65.apartS {w0 W : World} {g : Nat} {f0 : List Int} {f1 : Int} {α : Type} {d : Kd α} {e : Nat} {base : Nat} {ok : Nat → Prop} {v : Value} {xs : List α} (h : IsS65 w0 W g f0 f1) (ho : d.S e W base ok v xs) (ht : ∀ q, q ∈ e :: d.E → q ≠ 65) : d.S e W base (fun k => ok k ∧ k ≠ g) v xs := by
 obtain ⟨A0, c0, hb, hg, hr0⟩ := h
 exact Kd.S_types ho hb ht
theorem IsS65.own_neS {w0 W : World} {g : Nat} {f0 : List Int} {f1 : Int} {α : Type} {d : Kd α} {e : Nat} {base : Nat} {ok : Nat → Prop} {v : Value} {xs : List α} (h : IsS65 w0 W g f0 f1) (ho : d.S e W base ok v xs) (ht : e ≠ 65) : some g ≠ v.ownBlock := by
 obtain ⟨A0, c0, hb, hg, hr0⟩ := h
 exact Kd.S_ne ho hb ht
theorem IsS65.lt {w0 W : World} {g : Nat} {f0 : List Int} {f1 : Int} (h : IsS65 w0 W g f0 f1) : g < W.heap.size := by
 obtain ⟨A0, c0, hb, hg, hr0⟩ := h
 exact blk_lt hb
theorem IsS65.ge {w0 W : World} {g : Nat} {f0 : List Int} {f1 : Int} (h : IsS65 w0 W g f0 f1) : w0.heap.size ≤ g := by
 obtain ⟨A0, c0, hb, hg, hr0⟩ := h
 exact hg
theorem IsS65.far {w0 W : World} {g : Nat} {f0 : List Int} {f1 : Int} {p : Addr} (h : IsS65 w0 W g f0 f1) (hne : g ≠ p.block) (u : Value) : IsS65 w0 (W.setCell p u) g f0 f1 := by
 obtain ⟨A0, c0, hb, hg, hr0⟩ := h
 exact ⟨A0, c0, blk_far hb hne u, hg, hr0⟩
theorem cellS65_0 {W : World} {g : Nat} {A0 : Option Addr} {c0 : Nat} {f0 : List Int} {f1 : Int} (h : W.heap[g]? = some (.cells #[.slice A0 f0.length c0, .int .i64 f1] 65 (0, 0))) : W.cell? ⟨g, 0, none⟩ = some (.slice A0 f0.length c0) := (blk_cell h 0).trans rfl
theorem cellS65_1 {W : World} {g : Nat} {A0 : Option Addr} {c0 : Nat} {f0 : List Int} {f1 : Int} (h : W.heap[g]? = some (.cells #[.slice A0 f0.length c0, .int .i64 f1] 65 (0, 0))) : W.cell? ⟨g, 1, none⟩ = some (.int .i64 f1) := (blk_cell h 1).trans rfl
theorem IsS65.set_1 {w0 W : World} {g : Nat} {f0 : List Int} {f1 : Int} (h : IsS65 w0 W g f0 f1) (x : Int) : IsS65 w0 (W.setCell ⟨g, 1, none⟩ (.int .i64 x)) g f0 x := by
 obtain ⟨A0, c0, hb, hg, hr0⟩ := h
 exact ⟨A0, c0, by simpa using blk_set hb 1 (.int .i64 x), hg, hr0⟩
theorem IsS65.new (w0 W : World) (A0 : Option Addr) (c0 : Nat) (f0 : List Int) (f1 : Int) (hB : Below w0.heap.size w0 W) (hr0 : Kd.C (Kd.int .u8) w0 A0 f0.length f0) : IsS65 w0 (W.alloc (.cells #[.slice A0 f0.length c0, .int .i64 f1] 65)) W.heap.size f0 f1 := ⟨A0, c0, by simpa using heap_alloc_new W _, hB.size, hr0⟩
section
variable {α : Type} {d : Kd α} {e : Nat} {w w0 W w1 : World} {base g : Nat} {ok : Nat → Prop} {v : Value} {xs : List α}
theorem zi65 {p : Prop} (h : p := by repeat (first | (with_reducible first | exact HI0.out | apply IsS65.alloc | apply IsS65.drewN | apply IsS65.drew | apply IsS65.set_1 | (apply IsS65.far; (case hne => exact Aside0.out (by with_reducible assumption)))) | exact HI0.out)) : p := h
theorem tIb65 {f0 : List Int} {f1 f1' : Int} (h : Aside0 (IsS65 w w0 g f0 f1)) (hb : Below W.heap.size W w1) (k : IsS65 w w0 g f0 f1 → IsS65 w W g f0 f1' := by intro h_; repeat (first | (with_reducible first | exact h_ | apply IsS65.alloc | apply IsS65.drewN | apply IsS65.drew | apply IsS65.set_1 | (apply IsS65.far; (case hne => exact Aside0.out (by with_reducible assumption)))) | exact h_)) : Aside0 (IsS65 w w1 g f0 f1') := ⟨(k h.out).below hb⟩
theorem tRp65 {f0 : List Int} {f1 f1' : Int} {w' : World} (h : Aside0 (Kd.R d e w base ok v xs)) (hi : Aside0 (IsS65 w0 w1 g f0 f1)) (hk : KeepBut W w' g none) (k : Kd.R d e w base ok v xs → Kd.R d e W base ok v xs := by intro h_; (with_reducible repeat (first | apply Kd.R_alloc | apply Kd.R_drewN | apply Kd.R_drew | refine Kd.R_far ?_ (fun _ hk_ => Pr.out hk_) _)); exact h_) (ki : IsS65 w0 w1 g f0 f1 → IsS65 w0 W g f0 f1' := by intro h_; repeat (first | (with_reducible first | exact h_ | apply IsS65.alloc | apply IsS65.drewN | apply IsS65.drew | apply IsS65.set_1 | (apply IsS65.far; (case hne => exact Aside0.out (by with_reducible assumption)))) | exact h_)) (ht : ∀ q, q ∈ e :: d.E → q ≠ 65 := by decide) : Aside0 (Kd.R d e w' base ok v xs) := ⟨Kd.R_mono (Kd.R_keep (IsS65.apart (ki hi.out) (k h.out) ht) hk (fun _ h => h.2)) (fun _ h => h.1)⟩
theorem tSp65 {f0 : List Int} {f1 f1' : Int} {w' : World} (h : Aside0 (Kd.S d e w base ok v xs)) (hi : Aside0 (IsS65 w0 w1 g f0 f1)) (hk : KeepBut W w' g none) (k : Kd.S d e w base ok v xs → Kd.S d e W base ok v xs := by intro h_; (with_reducible repeat (first | apply Kd.S_alloc | apply Kd.S_drewN | apply Kd.S_drew | refine Kd.S_far ?_ (fun _ hk_ => Pr.out hk_) _)); exact h_) (ki : IsS65 w0 w1 g f0 f1 → IsS65 w0 W g f0 f1' := by intro h_; repeat (first | (with_reducible first | exact h_ | apply IsS65.alloc | apply IsS65.drewN | apply IsS65.drew | apply IsS65.set_1 | (apply IsS65.far; (case hne => exact Aside0.out (by with_reducible assumption)))) | exact h_)) (ht : ∀ q, q ∈ e :: d.E → q ≠ 65 := by decide) : Aside0 (Kd.S d e w' base ok v xs) := ⟨Kd.S_mono (Kd.S_keep (IsS65.apartS (ki hi.out) (k h.out) ht) hk (fun _ h => h.2)) (fun _ h => h.1)⟩
end

def spec_l6Rd_pick.j0 : Nat → Int → Bool → List Int → Int → Option (Int × Int)
 | 0, _, _, _, _ => none
 | k + 1, x1, x24, x1000, x1001 => if x24 = true then (some (0, x1001)) else (if (wrap64 (x1001 - 1)) < (x1000.length : Int) then (if 0 ≤ (wrap64 (x1001 - 1)) then (if x1 = 0 then (none) else (some (Int.tmod (wrap64 (rd x1000 (wrap64 (x1001 - 1)))) x1, x1001))) else (none)) else (if (x1000.length : Int) = 0 then (none) else (if 0 ≤ (Int.tmod (wrap64 (x1001 - 1)) (x1000.length : Int)) then (if (Int.tmod (wrap64 (x1001 - 1)) (x1000.length : Int)) < (x1000.length : Int) then (if 0 ≤ (Int.tmod (wrap64 ((wrap64 ((wrap64 (x1001 - 1)) * 7)) + 3)) (x1000.length : Int)) then (if (Int.tmod (wrap64 ((wrap64 ((wrap64 (x1001 - 1)) * 7)) + 3)) (x1000.length : Int)) < (x1000.length : Int) then (if x1 = 0 then (none) else (some (Int.tmod (Go.bits .xor .i64 (wrap64 ((wrap64 ((wrap64 ((wrap64 ((wrap64 (rd x1000 (Int.tmod (wrap64 (x1001 - 1)) (x1000.length : Int)))) * 131)) + (wrap64 ((wrap64 (rd x1000 (Int.tmod (wrap64 ((wrap64 ((wrap64 (x1001 - 1)) * 7)) + 3)) (x1000.length : Int)))) * 1117)))) + (wrap64 ((wrap64 (x1001 - 1)) * 29)))) + (wrap64 ((wrap64 (Int.tdiv (wrap64 (x1001 - 1)) (x1000.length : Int))) * 53)))) (wrap64 (Int.tdiv (wrap64 ((wrap64 ((wrap64 ((wrap64 ((wrap64 (rd x1000 (Int.tmod (wrap64 (x1001 - 1)) (x1000.length : Int)))) * 131)) + (wrap64 ((wrap64 (rd x1000 (Int.tmod (wrap64 ((wrap64 ((wrap64 (x1001 - 1)) * 7)) + 3)) (x1000.length : Int)))) * 1117)))) + (wrap64 ((wrap64 (x1001 - 1)) * 29)))) + (wrap64 ((wrap64 (Int.tdiv (wrap64 (x1001 - 1)) (x1000.length : Int))) * 53)))) 64))) x1, x1001))) else (none)) else (none)) else (none)) else (none))))
def spec_l6Rd_pick.f (k : Nat) (s0_0 : List Int) (s0_1 : Int) (a1 : Int) : Option (Int × Int) := if a1 < 1 then (spec_l6Rd_pick.j0 k a1 true s0_0 (wrap64 (s0_1 + 1))) else (spec_l6Rd_pick.j0 k a1 ((s0_0.length : Int) == 0) s0_0 (wrap64 (s0_1 + 1)))
set_option maxHeartbeats 8000000 in
set_option maxRecDepth 100000 in
theorem spec_l6Rd_pick.calls (k : Nat) (g : Nat) (s0_0 : List Int) (s0_1 : Int) (a1 : Int) (r1 : Int) (r2 : Int) (w0 w : World) (hI : IsS65 w0 w g s0_0 s0_1) (hB : Below w0.heap.size w0 w) (h : spec_l6Rd_pick.f k s0_0 s0_1 a1 = some (r1, r2)) :
  Calls Try.prog 26 #[.pointer (some ⟨g, 0, none⟩), .int .i64 a1] w fun e w' => e = .returned (.int .i64 r1) ∧ IsS65 w0 w' g s0_0 r2 ∧ Below w0.heap.size w0 w' ∧ KeepBut w w' g none := by
 have HI0 := Aside0.mk hI
 have HK := Aside0.mk (KeepBut.refl w g none)
 have HL := Aside0.mk hB.size
 clear hI
 have HW0 := Aside0.mk hB.size
 have HB := Aside0.mk hB
 clear hB
 have H : (if a1 < 1 then (spec_l6Rd_pick.j0 k a1 true s0_0 (wrap64 (s0_1 + 1))) else (spec_l6Rd_pick.j0 k a1 ((s0_0.length : Int) == 0) s0_0 (wrap64 (s0_1 + 1)))) = some (r1, r2) := h
 clear h
 have HC3 := Aside0.mk H
 clear H
 obtain ⟨ASz4_0, cSz4_0, HGz4, hgz4, HSz4_0⟩ := HI0.out
 have hcz4_0 := cellS65_0 HGz4
 have hcz4_1 := cellS65_1 HGz4
 have hfz4_1 := blk_frozen HGz4 1
 clear HGz4 hgz4
 go_enter Try.func26, Try.ntmps26
 go_upto_region 2 with (fail)
 repeat (go_quiet (fail); go_upto_region 2 with (fail))
 go_cut [24] (fun v24 wc => ∃ (kq : Nat) (x24_2 : Bool), v24 = .bool x24_2 ∧ Aside0 (spec_l6Rd_pick.j0 kq a1 x24_2 s0_0 (wrap64 (s0_1 + 1)) = some (r1, r2)) ∧ Aside0 (kq ≤ k) ∧ Aside0 (IsS65 w0 wc g s0_0 (wrap64 (s0_1 + 1))) ∧ Aside0 (KeepBut w wc g none) ∧ Aside0 (Below w0.heap.size w0 wc))
 case first =>
  have H := HC3.out
  clear HC3
  by_cases c5 : a1 < 1
  ·rw [if_pos c5] at H
   have c5b0 : decide (a1 < 1) = true := decide_eq_true c5
   clear c5
   (first | rw [c5b0] | (simp only [i64_w, i32_w]; rw [c5b0]) | skip)
   have H' := Aside0.mk H
   clear H
   go_wp2
   repeat (go_quiet (fail); try go_wp2)
   go_meet
   case rel => exact ⟨_, (true), tr, H', ⟨by first | omega | exact Nat.le_refl _⟩, ⟨zi65⟩, ⟨zk⟩, ⟨zb⟩⟩
  ·rw [if_neg c5] at H
   have c5b0 : decide (a1 < 1) = false := decide_eq_false c5
   clear c5
   (first | rw [c5b0] | (simp only [i64_w, i32_w]; rw [c5b0]) | skip)
   have H' := Aside0.mk H
   clear H
   obtain ⟨ASz6_0, cSz6_0, HGz6, hgz6, HSz6_0⟩ := HI0.out
   have hcz6_0 := cellS65_0 HGz6
   have hcz6_1 := cellS65_1 HGz6
   have hfz6_1 := blk_frozen HGz6 1
   clear HGz6 hgz6
   go_wp2
   repeat (go_quiet (fail); try go_wp2)
   go_meet
   case rel => exact ⟨_, (((s0_0.length : Int) == 0)), tr, H', ⟨by first | omega | exact Nat.le_refl _⟩, ⟨zi65⟩, ⟨zk⟩, ⟨zb⟩⟩
 case rest =>
  clear HC3
  try clear hcz4_0; try clear hcz4_1; try clear hfz4_1
  obtain ⟨kq, x24_2, rfl, HA, HJ2, HI0, HK, HB⟩ := hcut
  cases kq with
  | zero => exact absurd HA.out (by simp [spec_l6Rd_pick.j0])
  | succ kj2 =>
   have H := HA.out
   clear HA
   simp only [spec_l6Rd_pick.j0] at H
   by_cases c7 : x24_2 = true
   ·subst c7
    rw [if_pos rfl] at H
    simp only [Option.some.injEq, Prod.mk.injEq] at H
    obtain ⟨rfl, rfl⟩ := H
    go_wp2
    repeat (go_quiet (fail); try go_wp2)
    go_ret
    exact ⟨by first | rfl | (simp [errW_none, errW_some] <;> rfl) | (simp [*, errW_none, errW_some] <;> rfl), zi65, zb, zk⟩
   ·replace c7 := Bool.eq_false_iff.mpr c7
    subst c7
    rw [if_neg (show ¬ (false = true) by decide)] at H
    by_cases c8 : (wrap64 ((wrap64 (s0_1 + 1)) - 1)) < (s0_0.length : Int)
    ·rw [if_pos c8] at H
     have c8b0 : decide ((wrap64 ((wrap64 (s0_1 + 1)) - 1)) < (s0_0.length : Int)) = true := decide_eq_true c8
     clear c8
     obtain ⟨ji9, hji9⟩ : ∃ j_ : Int, (wrap64 ((wrap64 (s0_1 + 1)) - 1)) = j_ := ⟨_, rfl⟩
     replace H : (if 0 ≤ (ji9) then (if a1 = 0 then (none) else (some (Int.tmod (wrap64 (rd s0_0 (ji9))) a1, (wrap64 (s0_1 + 1))))) else (none)) = some (r1, r2) := by first | (rw [hji9] at H; exact H) | (simp only [hji9] at H ⊢; exact H)
     (try rw [hji9] at c8b0)
     have hji9w : (IntKind.i64.wrap ((wrap64 (s0_1 + 1)) - 1)) = ji9 := (i64_w _).trans hji9
     by_cases c10 : 0 ≤ (ji9)
     ·rw [if_pos c10] at H
      have c10b0 : decide (0 ≤ (ji9)) = true := decide_eq_true c10
      clear c10
      by_cases c11 : a1 = 0
      ·rw [if_pos c11] at H
       exact absurd H (by simp)
      ·rw [if_neg c11] at H
       have c11b0 : (a1 == 0) = false := beq_eq_false_iff_ne.mpr c11
       have c11b1 : (a1 != 0) = true := bne_iff_ne.mpr c11
       simp only [Option.some.injEq, Prod.mk.injEq] at H
       obtain ⟨rfl, rfl⟩ := H
       obtain ⟨ASz12_0, cSz12_0, HGz12, hgz12, HSz12_0⟩ := HI0.out
       have hcz12_0 := cellS65_0 HGz12
       have hcz12_1 := cellS65_1 HGz12
       have hfz12_1 := blk_frozen HGz12 1
       clear HGz12 hgz12
       have p101 : 0 ≤ ((ji9) : Int) := td
       have q101 : (ji9) < (s0_0.length : Int) := td
       obtain ⟨ad101, e101, hx101_0⟩ := Kd.at_int HSz12_0 (ji9) p101 q101
       cases e101
       replace hx101_0 := pw_cell_below HB.out hx101_0
       replace p101 := eq_true p101
       replace q101 := eq_true q101
       go_wp2
       repeat (go_quiet (fail); try go_wp2)
       go_ret
       exact ⟨by first | rfl | (simp [errW_none, errW_some] <;> rfl) | (simp only [← hji9]; first | rfl | (simp [errW_none, errW_some] <;> rfl)) | (simp [*, errW_none, errW_some] <;> rfl), zi65, zb, zk⟩
     ·rw [if_neg c10] at H
      exact absurd H (by simp)
    ·rw [if_neg c8] at H
     have c8b0 : decide ((wrap64 ((wrap64 (s0_1 + 1)) - 1)) < (s0_0.length : Int)) = false := decide_eq_false c8
     clear c8
     by_cases c13 : (s0_0.length : Int) = 0
     ·rw [if_pos c13] at H
      exact absurd H (by simp)
     ·rw [if_neg c13] at H
      have c13b0 : ((s0_0.length : Int) == 0) = false := beq_eq_false_iff_ne.mpr c13
      have c13b1 : ((s0_0.length : Int) != 0) = true := bne_iff_ne.mpr c13
      have c13b2 : ¬ (s0_0 = []) := fun h_ => c13 (by rw [h_]; rfl)
      obtain ⟨ji14, hji14⟩ : ∃ j_ : Int, (Int.tmod (wrap64 ((wrap64 (s0_1 + 1)) - 1)) (s0_0.length : Int)) = j_ := ⟨_, rfl⟩
      replace H : (if 0 ≤ (ji14) then (if (ji14) < (s0_0.length : Int) then (if 0 ≤ (Int.tmod (wrap64 ((wrap64 ((wrap64 ((wrap64 (s0_1 + 1)) - 1)) * 7)) + 3)) (s0_0.length : Int)) then (if (Int.tmod (wrap64 ((wrap64 ((wrap64 ((wrap64 (s0_1 + 1)) - 1)) * 7)) + 3)) (s0_0.length : Int)) < (s0_0.length : Int) then (if a1 = 0 then (none) else (some (Int.tmod (Go.bits .xor .i64 (wrap64 ((wrap64 ((wrap64 ((wrap64 ((wrap64 (rd s0_0 (ji14))) * 131)) + (wrap64 ((wrap64 (rd s0_0 (Int.tmod (wrap64 ((wrap64 ((wrap64 ((wrap64 (s0_1 + 1)) - 1)) * 7)) + 3)) (s0_0.length : Int)))) * 1117)))) + (wrap64 ((wrap64 ((wrap64 (s0_1 + 1)) - 1)) * 29)))) + (wrap64 ((wrap64 (Int.tdiv (wrap64 ((wrap64 (s0_1 + 1)) - 1)) (s0_0.length : Int))) * 53)))) (wrap64 (Int.tdiv (wrap64 ((wrap64 ((wrap64 ((wrap64 ((wrap64 (rd s0_0 (ji14))) * 131)) + (wrap64 ((wrap64 (rd s0_0 (Int.tmod (wrap64 ((wrap64 ((wrap64 ((wrap64 (s0_1 + 1)) - 1)) * 7)) + 3)) (s0_0.length : Int)))) * 1117)))) + (wrap64 ((wrap64 ((wrap64 (s0_1 + 1)) - 1)) * 29)))) + (wrap64 ((wrap64 (Int.tdiv (wrap64 ((wrap64 (s0_1 + 1)) - 1)) (s0_0.length : Int))) * 53)))) 64))) a1, (wrap64 (s0_1 + 1))))) else (none)) else (none)) else (none)) else (none)) = some (r1, r2) := by first | (rw [hji14] at H; exact H) | (simp only [hji14] at H ⊢; exact H)
      by_cases c15 : 0 ≤ (ji14)
      ·rw [if_pos c15] at H
       have c15b0 : decide (0 ≤ (ji14)) = true := decide_eq_true c15
       clear c15
       by_cases c16 : (ji14) < (s0_0.length : Int)
       ·rw [if_pos c16] at H
        have c16b0 : decide ((ji14) < (s0_0.length : Int)) = true := decide_eq_true c16
        clear c16
        obtain ⟨ji17, hji17⟩ : ∃ j_ : Int, (Int.tmod (wrap64 ((wrap64 ((wrap64 ((wrap64 (s0_1 + 1)) - 1)) * 7)) + 3)) (s0_0.length : Int)) = j_ := ⟨_, rfl⟩
        replace H : (if 0 ≤ (ji17) then (if (ji17) < (s0_0.length : Int) then (if a1 = 0 then (none) else (some (Int.tmod (Go.bits .xor .i64 (wrap64 ((wrap64 ((wrap64 ((wrap64 ((wrap64 (rd s0_0 (ji14))) * 131)) + (wrap64 ((wrap64 (rd s0_0 (ji17))) * 1117)))) + (wrap64 ((wrap64 ((wrap64 (s0_1 + 1)) - 1)) * 29)))) + (wrap64 ((wrap64 (Int.tdiv (wrap64 ((wrap64 (s0_1 + 1)) - 1)) (s0_0.length : Int))) * 53)))) (wrap64 (Int.tdiv (wrap64 ((wrap64 ((wrap64 ((wrap64 ((wrap64 (rd s0_0 (ji14))) * 131)) + (wrap64 ((wrap64 (rd s0_0 (ji17))) * 1117)))) + (wrap64 ((wrap64 ((wrap64 (s0_1 + 1)) - 1)) * 29)))) + (wrap64 ((wrap64 (Int.tdiv (wrap64 ((wrap64 (s0_1 + 1)) - 1)) (s0_0.length : Int))) * 53)))) 64))) a1, (wrap64 (s0_1 + 1))))) else (none)) else (none)) = some (r1, r2) := by first | (rw [hji17] at H; exact H) | (simp only [hji17] at H ⊢; exact H)
        by_cases c18 : 0 ≤ (ji17)
        ·rw [if_pos c18] at H
         have c18b0 : decide (0 ≤ (ji17)) = true := decide_eq_true c18
         clear c18
         by_cases c19 : (ji17) < (s0_0.length : Int)
         ·rw [if_pos c19] at H
          have c19b0 : decide ((ji17) < (s0_0.length : Int)) = true := decide_eq_true c19
          clear c19
          by_cases c20 : a1 = 0
          ·rw [if_pos c20] at H
           exact absurd H (by simp)
          ·rw [if_neg c20] at H
           have c20b0 : (a1 == 0) = false := beq_eq_false_iff_ne.mpr c20
           have c20b1 : (a1 != 0) = true := bne_iff_ne.mpr c20
           simp only [Option.some.injEq, Prod.mk.injEq] at H
           obtain ⟨rfl, rfl⟩ := H
           obtain ⟨ASz21_0, cSz21_0, HGz21, hgz21, HSz21_0⟩ := HI0.out
           have hcz21_0 := cellS65_0 HGz21
           have hcz21_1 := cellS65_1 HGz21
           have hfz21_1 := blk_frozen HGz21 1
           clear HGz21 hgz21
           have p102 : 0 ≤ ((ji14) : Int) := td
           have q102 : (ji14) < (s0_0.length : Int) := td
           obtain ⟨ad102, e102, hx102_0⟩ := Kd.at_int HSz21_0 (ji14) p102 q102
           cases e102
           replace hx102_0 := pw_cell_below HB.out hx102_0
           replace p102 := eq_true p102
           replace q102 := eq_true q102
           have p103 : 0 ≤ ((ji17) : Int) := td
           have q103 : (ji17) < (s0_0.length : Int) := td
           obtain ⟨ad103, e103, hx103_0⟩ := Kd.at_int HSz21_0 (ji17) p103 q103
           obtain rfl : ad102 = ad103 := (by injection e103)
           replace hx103_0 := pw_cell_below HB.out hx103_0
           replace p103 := eq_true p103
           replace q103 := eq_true q103
           go_wp2
           repeat (go_quiet (fail); try go_wp2)
           go_ret
           exact ⟨by first | rfl | (simp [errW_none, errW_some] <;> rfl) | (simp only [← hji14, ← hji17]; first | rfl | (simp [errW_none, errW_some] <;> rfl)) | (simp [*, errW_none, errW_some] <;> rfl), zi65, zb, zk⟩
         ·rw [if_neg c19] at H
          exact absurd H (by simp)
        ·rw [if_neg c18] at H
         exact absurd H (by simp)
       ·rw [if_neg c16] at H
        exact absurd H (by simp)
      ·rw [if_neg c15] at H
       exact absurd H (by simp)

mutual
def spec_l91Part.j0 : Nat → List Int → Int → List Int → Int → Option (Bool × List Int × Int)
 | 0, _, _, _, _ => none
 | k + 1, x4, x5, x1000, x1001 => spec_l91Part.l0 k x4 x5 0 x1000 x1001
def spec_l91Part.l0 : Nat → List Int → Int → Int → List Int → Int → Option (Bool × List Int × Int)
 | 0, _, _, _, _, _ => none
 | k + 1, x4, x5, x6, x1000, x1001 => if x6 < x5 then ((spec_l6Rd_pick.f k x1000 x1001 256).bind fun bt116 => ((some (([1, 2, 3, bt116.1] : List Int) : List Int)).bind fun y118 => ((spec_l6Rd_pick.f k x1000 bt116.2 4).bind fun bt121 => (if 0 ≤ bt121.1 then (if bt121.1 < (y118.length : Int) then (if x4.length < 17592186044416 then (spec_l91Part.l0 k (x4 ++ [rd y118 bt121.1]) x5 (wrap64 (x6 + 1)) x1000 bt121.2) else (none)) else (none)) else (none))))) else (some (true, x4, x1001))
end
def spec_l91Part.f (k : Nat) (s0_0 : List Int) (s0_1 : Int) : Option (Bool × List Int × Int) := (spec_l6Rd_pick.f k s0_0 s0_1 4).bind fun bt104 => (if bt104.1 = 0 then (some (false, (([] : List Int)), bt104.2)) else ((some (([] : List Int) : List Int)).bind fun y109 => ((spec_l6Rd_pick.f k s0_0 bt104.2 5).bind fun bt112 => ((spec_l6Rd_pick.f k s0_0 bt112.2 12).bind fun bt114 => (if bt114.1 = 0 then (spec_l91Part.j0 k y109 12 s0_0 bt114.2) else (spec_l91Part.j0 k y109 bt112.1 s0_0 bt114.2))))))
set_option maxHeartbeats 8000000 in
set_option maxRecDepth 100000 in
theorem spec_l91Part.calls (k : Nat) (g : Nat) (s0_0 : List Int) (s0_1 : Int) (r1 : Bool) (r2 : List Int) (r3 : Int) (w0 w : World) (hI : IsS65 w0 w g s0_0 s0_1) (hB : Below w0.heap.size w0 w) (h : spec_l91Part.f k s0_0 s0_1 = some (r1, r2, r3)) :
  Calls Try.prog 51 #[.pointer (some ⟨g, 0, none⟩)] w fun e w' => ∃ v1_ : Value, e = .returned (.tuple #[.bool r1, v1_]) ∧ Kd.R (Kd.int .i64) 3 w' w.heap.size (fun _ => True) v1_ r2 ∧ IsS65 w0 w' g s0_0 r3 ∧ Below w0.heap.size w0 w' ∧ KeepBut w w' g none := by
 have HI0 := Aside0.mk hI
 have HK := Aside0.mk (KeepBut.refl w g none)
 have HL := Aside0.mk hB.size
 clear hI
 have HW0 := Aside0.mk hB.size
 have HB := Aside0.mk hB
 clear hB
 have H : ((spec_l6Rd_pick.f k s0_0 s0_1 4).bind fun bt104 => (if bt104.1 = 0 then (some (false, (([] : List Int)), bt104.2)) else ((some (([] : List Int) : List Int)).bind fun y109 => ((spec_l6Rd_pick.f k s0_0 bt104.2 5).bind fun bt112 => ((spec_l6Rd_pick.f k s0_0 bt112.2 12).bind fun bt114 => (if bt114.1 = 0 then (spec_l91Part.j0 k y109 12 s0_0 bt114.2) else (spec_l91Part.j0 k y109 bt112.1 s0_0 bt114.2))))))) = some (r1, r2, r3) := h
 clear h
 replace H := tbe H
 obtain ⟨⟨t104, t105⟩, A2, H⟩ := H
 dsimp only at H
 by_cases c3 : t104 = 0
 ·rw [if_pos c3] at H
  have c3b0 : (t104 == 0) = true := beq_iff_eq.mpr c3
  have c3b1 : (t104 != 0) = false := bne_eq_false_iff_eq.mpr c3
  clear c3
  obtain ⟨y106, hy106⟩ : ∃ y_ : List Int, y_ = (([] : List Int)) := ⟨_, rfl⟩
  replace H : (some (false, y106, t105)) = some (r1, r2, r3) := by first | (rw [hy106]; with_reducible exact H) | (have H2_ := (Option.bind_some _ _).symm.trans H; rw [hy106]; with_reducible exact H2_) | (have H2_ := (Option.bind_some _ _).symm.trans H; with_reducible exact H2_) | with_reducible exact H | (rw [hy106]; exact H) | exact H
  have Ny106 := Aside0.mk hy106
  clear hy106
  simp only [Option.some.injEq, Prod.mk.injEq] at H
  obtain ⟨rfl, rfl, rfl⟩ := H
  go_enter Try.func51, Try.ntmps51
  go_wp2_with (first | ((with_reducible refine gate_callee (f := 26) rfl ?_); refine goesL_ (some 8) rfl rfl Try.func26 (by kernel_rfl) rfl #[.pointer (some ⟨g, 0, none⟩), .int .i64 4] rfl tq ?_; (with_reducible refine (spec_l6Rd_pick.calls k g s0_0 s0_1 4 t104 t105 w0 _ ?side1 ?side2 A2.out).mono ?_); (case side1 => exact zi65); (case side2 => exact zb); rintro e w4 ⟨rfl, hi, hb, hk⟩; refine ⟨_, rfl, ?_⟩; replace HK := tKt HK hk; replace HB := Aside0.mk (hb); replace HI0 := Aside0.mk (hi); (try clear hb); (try clear hb2); (try clear hk); (try clear hi)) | ((with_reducible refine gate_dst (N := 10) rfl ?_); refine Kd.R_lit (Kd.int .i64) _ 3 ?hg (N := 10) ?hd (xs := ([] : List Int)) (inner := []) (ok := fun _ => True) (okp := fun _ => True) ?hr ?hp (fun _ hk => hk) trivial (Below.refl _ _) (Nat.le_refl _) (by simp) ?_; (case hd => rfl); (case hg => rfl); (case hr => first | (go_simp; done) | (go_simp; rfl)); (case hp => exact (Reps.none _ _)); intro v107 w5 ho6 hb hg_ hnew_; clear hg_ hnew_; (first | rw [← Ny106.out] at ho6 | (simp only [Int.reduceToNat] at ho6; rw [← Ny106.out] at ho6)); have HO108 := Aside0.mk (Kd.R_lower ho6 (keep_size (w := w) (g := g) (row := none) zk)); replace HI0 := tIb65 HI0 hb; replace HK := tKb HK hb; replace HB := tBs HB hb; clear hb ho6))
  go_ret2
  exact ⟨_, by first | rfl | (simp [errW_none, errW_some] <;> rfl) | (simp [*, errW_none, errW_some] <;> rfl), tR HO108.out, zi65, zb, zk⟩
 ·rw [if_neg c3] at H
  have c3b0 : (t104 == 0) = false := beq_eq_false_iff_ne.mpr c3
  have c3b1 : (t104 != 0) = true := bne_iff_ne.mpr c3
  obtain ⟨y109, hy109⟩ : ∃ y_ : List Int, y_ = (([] : List Int)) := ⟨_, rfl⟩
  replace H : ((spec_l6Rd_pick.f k s0_0 t105 5).bind fun bt112 => ((spec_l6Rd_pick.f k s0_0 bt112.2 12).bind fun bt114 => (if bt114.1 = 0 then (spec_l91Part.j0 k y109 12 s0_0 bt114.2) else (spec_l91Part.j0 k y109 bt112.1 s0_0 bt114.2)))) = some (r1, r2, r3) := by first | (rw [hy109]; with_reducible exact H) | (have H2_ := (Option.bind_some _ _).symm.trans H; rw [hy109]; with_reducible exact H2_) | (have H2_ := (Option.bind_some _ _).symm.trans H; with_reducible exact H2_) | with_reducible exact H | (rw [hy109]; exact H) | exact H
  have Ny109 := Aside0.mk hy109
  clear hy109
  replace H := tbe H
  obtain ⟨⟨t112, t113⟩, A7, H⟩ := H
  dsimp only at H
  replace H := tbe H
  obtain ⟨⟨t114, t115⟩, A8, H⟩ := H
  dsimp only at H
  have HC9 := Aside0.mk H
  clear H
  go_enter Try.func51, Try.ntmps51
  go_upto_if 16 with (first | ((with_reducible refine gate_callee (f := 26) rfl ?_); refine goesL_ (some 8) rfl rfl Try.func26 (by kernel_rfl) rfl #[.pointer (some ⟨g, 0, none⟩), .int .i64 4] rfl tq ?_; (with_reducible refine (spec_l6Rd_pick.calls k g s0_0 s0_1 4 t104 t105 w0 _ ?side1 ?side2 A2.out).mono ?_); (case side1 => exact zi65); (case side2 => exact zb); rintro e w10 ⟨rfl, hi, hb, hk⟩; refine ⟨_, rfl, ?_⟩; replace HK := tKt HK hk; replace HB := Aside0.mk (hb); replace HI0 := Aside0.mk (hi); (try clear hb); (try clear hb2); (try clear hk); (try clear hi)) | ((with_reducible refine gate_dst (N := 11) rfl ?_); refine Kd.R_lit (Kd.int .i64) _ 3 ?hg (N := 11) ?hd (xs := ([] : List Int)) (inner := []) (ok := fun _ => True) (okp := fun _ => True) ?hr ?hp (fun _ hk => hk) trivial (Below.refl _ _) (Nat.le_refl _) (by simp) ?_; (case hd => rfl); (case hg => rfl); (case hr => first | (go_simp; done) | (go_simp; rfl)); (case hp => exact (Reps.none _ _)); intro v110 w11 ho12 hb hg_ hnew_; clear hg_ hnew_; (first | rw [← Ny109.out] at ho12 | (simp only [Int.reduceToNat] at ho12; rw [← Ny109.out] at ho12)); have HO111 := Aside0.mk (Kd.R_lower ho12 (keep_size (w := w) (g := g) (row := none) zk)); replace HI0 := tIb65 HI0 hb; replace HK := tKb HK hb; replace HB := tBs HB hb; clear hb ho12) | ((with_reducible refine gate_callee (f := 26) rfl ?_); refine goesL_ (some 13) rfl rfl Try.func26 (by kernel_rfl) rfl #[.pointer (some ⟨g, 0, none⟩), .int .i64 5] rfl tq ?_; (with_reducible refine (spec_l6Rd_pick.calls k g s0_0 t105 5 t112 t113 w0 _ ?side1 ?side2 A7.out).mono ?_); (case side1 => exact zi65); (case side2 => exact zb); rintro e w13 ⟨rfl, hi, hb, hk⟩; refine ⟨_, rfl, ?_⟩; replace HO111 := tRp65 HO111 HI0 hk; replace HK := tKt HK hk; replace HB := Aside0.mk (hb); replace HI0 := Aside0.mk (hi); (try clear hb); (try clear hb2); (try clear hk); (try clear hi)) | ((with_reducible refine gate_callee (f := 26) rfl ?_); refine goesL_ (some 15) rfl rfl Try.func26 (by kernel_rfl) rfl #[.pointer (some ⟨g, 0, none⟩), .int .i64 12] rfl tq ?_; (with_reducible refine (spec_l6Rd_pick.calls k g s0_0 t113 12 t114 t115 w0 _ ?side1 ?side2 A8.out).mono ?_); (case side1 => exact zi65); (case side2 => exact zb); rintro e w14 ⟨rfl, hi, hb, hk⟩; refine ⟨_, rfl, ?_⟩; replace HO111 := tRp65 HO111 HI0 hk; replace HK := tKt HK hk; replace HB := Aside0.mk (hb); replace HI0 := Aside0.mk (hi); (try clear hb); (try clear hb2); (try clear hk); (try clear hi)))
  (try simp only [Act.put, List.setIfInBounds_toArray, List.set_cons_zero, List.set_cons_succ])
  go_cut [5] (fun v5 wc => ∃ (kq : Nat) (x5_8 : Int), v5 = .int .i64 x5_8 ∧ Aside0 (spec_l91Part.j0 kq y109 x5_8 s0_0 t115 = some (r1, r2, r3)) ∧ Aside0 (kq ≤ k) ∧ Aside0 (Kd.R (Kd.int .i64) 3 wc w.heap.size (fun _ => True) v110 y109) ∧ Aside0 (IsS65 w0 wc g s0_0 t115) ∧ Aside0 (KeepBut w wc g none) ∧ Aside0 (Below w0.heap.size w0 wc))
  case first =>
   have H := HC9.out
   clear HC9
   by_cases c15 : t114 = 0
   ·rw [if_pos c15] at H
    have c15b0 : (t114 == 0) = true := beq_iff_eq.mpr c15
    have c15b1 : (t114 != 0) = false := bne_eq_false_iff_eq.mpr c15
    clear c15
    (first | rw [c15b0] | (simp only [i64_w, i32_w]; rw [c15b0]) | skip)
    have H' := Aside0.mk H
    clear H
    go_wp2
    go_meet
    case rel => exact ⟨_, (12), tr, H', ⟨by first | omega | exact Nat.le_refl _⟩, ⟨tR HO111.out⟩, ⟨zi65⟩, ⟨zk⟩, ⟨zb⟩⟩
   ·rw [if_neg c15] at H
    have c15b0 : (t114 == 0) = false := beq_eq_false_iff_ne.mpr c15
    have c15b1 : (t114 != 0) = true := bne_iff_ne.mpr c15
    (first | rw [c15b0] | (simp only [i64_w, i32_w]; rw [c15b0]) | skip)
    have H' := Aside0.mk H
    clear H
    go_wp2
    go_meet
    case rel => exact ⟨_, (t112), tr, H', ⟨by first | omega | exact Nat.le_refl _⟩, ⟨tR HO111.out⟩, ⟨zi65⟩, ⟨zk⟩, ⟨zb⟩⟩
  case rest =>
   clear HC9
   try clear c3; try clear c3b0; try clear c3b1
   obtain ⟨kq, x5_8, rfl, HA, HJ8, HO_4, HI0, HK, HB⟩ := hcut
   cases kq with
   | zero => exact absurd HA.out (by simp [spec_l91Part.j0])
   | succ kj8 =>
    have H := HA.out
    clear HA
    simp only [spec_l91Part.j0] at H
    have H' := Aside0.mk H
    clear H
    go_wp2
    go_loopg [4, 6] kj8 (fun kq v4 v6 w' => ∃ (x4_2 : List Int) (x6_2 : Int) (x1001_2 : Int), v6 = .int .i64 x6_2 ∧ Aside0 (spec_l91Part.l0 kq x4_2 x5_8 x6_2 s0_0 x1001_2 = some (r1, r2, r3)) ∧ Aside0 (kq ≤ kj8) ∧ Aside0 (Kd.R (Kd.int .i64) 3 w' w.heap.size (fun _ => True) v4 x4_2) ∧ Aside0 (IsS65 w0 w' g s0_0 x1001_2) ∧ Aside0 (KeepBut w w' g none) ∧ Aside0 (Below w0.heap.size w0 w'))
    case atStart => exact ⟨(y109), (0), (t115), tr, H', ⟨Nat.le_refl _⟩, ⟨tR HO_4.out⟩, ⟨zi65⟩, ⟨zk⟩, ⟨zb⟩⟩
    case round =>
     clear H'
     try clear c3; try clear c3b0; try clear c3b1
     obtain ⟨x4_2, x6_2, x1001_2, rfl, HA, HK2, HO_4, HI0, HK, HB⟩ := hrel
     cases gk with
     | zero => exact absurd HA.out (by simp [spec_l91Part.l0])
     | succ k2 =>
      have H := HA.out
      clear HA
      simp only [spec_l91Part.l0] at H
      by_cases c16 : x6_2 < x5_8
      ·rw [if_pos c16] at H
       have c16b0 : decide (x6_2 < x5_8) = true := decide_eq_true c16
       clear c16
       replace H := tbe H
       obtain ⟨⟨t116, t117⟩, A17, H⟩ := H
       dsimp only at H
       obtain ⟨y118, hy118⟩ : ∃ y_ : List Int, y_ = (([1, 2, 3, t116] : List Int)) := ⟨_, rfl⟩
       replace H : ((spec_l6Rd_pick.f k2 s0_0 t117 4).bind fun bt121 => (if 0 ≤ bt121.1 then (if bt121.1 < (y118.length : Int) then (if x4_2.length < 17592186044416 then (spec_l91Part.l0 k2 (x4_2 ++ [rd y118 bt121.1]) x5_8 (wrap64 (x6_2 + 1)) s0_0 bt121.2) else (none)) else (none)) else (none))) = some (r1, r2, r3) := by first | (rw [hy118]; with_reducible exact H) | (have H2_ := (Option.bind_some _ _).symm.trans H; rw [hy118]; with_reducible exact H2_) | (have H2_ := (Option.bind_some _ _).symm.trans H; with_reducible exact H2_) | with_reducible exact H | (rw [hy118]; exact H) | exact H
       have Ny118 := Aside0.mk hy118
       clear hy118
       replace H := tbe H
       obtain ⟨⟨t121, t122⟩, A18, H⟩ := H
       dsimp only at H
       by_cases c19 : 0 ≤ t121
       ·rw [if_pos c19] at H
        have c19b0 : decide (0 ≤ t121) = true := decide_eq_true c19
        clear c19
        by_cases c20 : t121 < (y118.length : Int)
        ·rw [if_pos c20] at H
         have c20b0 : decide (t121 < (y118.length : Int)) = true := decide_eq_true c20
         clear c20
         by_cases c21 : x4_2.length < 17592186044416
         ·rw [if_pos c21] at H
          have LMc21 := Aside0.mk c21
          clear c21
          obtain ⟨y124, hy124⟩ : ∃ y_ : List Int, y_ = (x4_2 ++ [rd y118 t121]) := ⟨_, rfl⟩
          replace H : (spec_l91Part.l0 k2 y124 x5_8 (wrap64 (x6_2 + 1)) s0_0 t122) = some (r1, r2, r3) := by first | (rw [hy124]; with_reducible exact H) | (have H2_ := (Option.bind_some _ _).symm.trans H; rw [hy124]; with_reducible exact H2_) | (have H2_ := (Option.bind_some _ _).symm.trans H; with_reducible exact H2_) | with_reducible exact H | (rw [hy124]; exact H) | exact H
          have Ny124 := Aside0.mk hy124
          clear hy124
          have H' := Aside0.mk H
          clear H
          go_wp2_with (first | ((with_reducible refine gate_callee (f := 26) rfl ?_); refine goesL_ (some 24) rfl rfl Try.func26 (by kernel_rfl) rfl #[.pointer (some ⟨g, 0, none⟩), .int .i64 256] rfl tq ?_; (with_reducible refine (spec_l6Rd_pick.calls k2 g s0_0 x1001_2 256 t116 t117 w0 _ ?side1 ?side2 A17.out).mono ?_); (case side1 => exact zi65); (case side2 => exact zb); rintro e w22 ⟨rfl, hi, hb, hk⟩; refine ⟨_, rfl, ?_⟩; replace HO_4 := tRp65 HO_4 HI0 hk; replace HK := tKt HK hk; replace HB := Aside0.mk (hb); replace HI0 := Aside0.mk (hi); (try clear hb); (try clear hb2); (try clear hk); (try clear hi)) | ((with_reducible refine gate_dst (N := 25) rfl ?_); refine Kd.R_lit (Kd.int .i64) _ 3 ?hg (N := 25) ?hd (xs := ([1, 2, 3, t116] : List Int)) (inner := [.int .i64 1, .int .i64 2, .int .i64 3, .int .i64 t116]) (ok := fun _ => True) (okp := fun _ => True) ?hr ?hp (fun _ hk => hk) trivial (Below.refl _ _) (Nat.le_refl _) (by simp) ?_; (case hd => rfl); (case hg => rfl); (case hr => first | (go_simp; done) | (go_simp; rfl)); (case hp => exact (Reps.one (show Kd.M (Kd.int .i64) _ _ _ 1 [.int .i64 1] from rfl) (Reps.one (show Kd.M (Kd.int .i64) _ _ _ 2 [.int .i64 2] from rfl) (Reps.one (show Kd.M (Kd.int .i64) _ _ _ 3 [.int .i64 3] from rfl) (Reps.one (show Kd.M (Kd.int .i64) _ _ _ t116 [.int .i64 t116] from rfl) (Reps.none _ _)))))); intro v119 w23 ho24 hb hg_ hnew_; clear hg_ hnew_; (first | rw [← Ny118.out] at ho24 | (simp only [Int.reduceToNat] at ho24; rw [← Ny118.out] at ho24)); have HO120 := Aside0.mk (Kd.R_lower (Kd.R_new' ho24 (Kd.R_lt (tR HO_4.out))) (keep_size (w := w) (g := g) (row := none) zk)); replace HO_4 := Aside0.mk (Kd.R_elder' (tR HO_4.out) (Kd.R_base ho24) hb); replace HI0 := tIb65 HI0 hb; replace HK := tKb HK hb; replace HB := tBs HB hb; clear hb ho24) | ((with_reducible refine gate_callee (f := 26) rfl ?_); refine goesL_ (some 27) rfl rfl Try.func26 (by kernel_rfl) rfl #[.pointer (some ⟨g, 0, none⟩), .int .i64 4] rfl tq ?_; (with_reducible refine (spec_l6Rd_pick.calls k2 g s0_0 t117 4 t121 t122 w0 _ ?side1 ?side2 A18.out).mono ?_); (case side1 => exact zi65); (case side2 => exact zb); rintro e w25 ⟨rfl, hi, hb, hk⟩; refine ⟨_, rfl, ?_⟩; replace HO_4 := tRp65 HO_4 HI0 hk; replace HO120 := tRp65 HO120 HI0 hk; replace HK := tKt HK hk; replace HB := Aside0.mk (hb); replace HI0 := Aside0.mk (hi); (try clear hb); (try clear hb2); (try clear hk); (try clear hi); obtain ⟨Ao26, co26, eo26⟩ := Kd.R_slice HO120.out; subst eo26; have p123 : 0 ≤ (t121 : Int) := td; have q123 : t121 < (y118.length : Int) := td; obtain ⟨ad123, e123, hx123_0⟩ := Kd.at_int (Kd.R_reads' HO120.out).2.2 t121 p123 q123; cases e123; replace p123 := eq_true p123; replace q123 := eq_true q123) | ((with_reducible refine gate_builtin (b := .append) (xs := #[.tmp 22, .tmp 30]) rfl ?_); at_builtin; refine Kd.R_append (Kd.int .i64) w.heap.size rfl (.tmp 22) (.tmp 30) 26 3 (.int .i64 0) 8 rfl Try.underlying26 info3 rfl (by decide) (by omega) u4 x4_2 (rd y118 t121) [.int .i64 (rd y118 t121)] (fun k_ => some k_ ≠ (.slice (some ad123) y118.length co26 : Value).ownBlock) (fun _ => False) rfl rfl ?aP (fun _ hk => hk.elim) ?aF ?aO (Below.refl _ _) ?aS ?aL ?_; (case aP => exact rfl); (case aF => exact (fun k_ hk => Kd.fresh' (Kd.R_lt (tR HO120.out)) k_ hk)); (case aO => exact (tRm HO_4.out)); (case aS => exact (keep_size (w := w) (g := g) (row := none) zk)); (case aL => have := LMc21.out; omega); intro v125 w27 ho hb hg hat; rw [← Ny124.out] at ho; replace HO120 := Aside0.mk (Kd.R_after (ok := (fun _ => True)) (tR HO120.out) hg hat); replace HB := Aside0.mk (below_weaken zb HL.out hb); replace HI0 := Aside0.mk (IsS65.grown zi65 hg (IsS65.own_ne HI0.out HO_4.out (by decide))); replace HK := Aside0.mk (KeepBut.trans zk (KeepBut.of_grown hg g) (Kd.R_base2 HO_4.out)); have HO126 := Aside0.mk (ho); clear HO_4; clear ho hb hg hat))
          go_roundg k2
          case measure => have := HJ8.out; have := HK2.out; omega
          case rel => exact ⟨(y124), (wrap64 (x6_2 + 1)), (t122), tr, H', ⟨by have := HJ8.out; have := HK2.out; omega⟩, ⟨tRm HO126.out⟩, ⟨zi65⟩, ⟨zk⟩, ⟨zb⟩⟩
         ·rw [if_neg c21] at H
          exact absurd H (by simp)
        ·rw [if_neg c20] at H
         exact absurd H (by simp)
       ·rw [if_neg c19] at H
        exact absurd H (by simp)
      ·rw [if_neg c16] at H
       have c16b0 : decide (x6_2 < x5_8) = false := decide_eq_false c16
       clear c16
       simp only [Option.some.injEq, Prod.mk.injEq] at H
       obtain ⟨rfl, rfl, rfl⟩ := H
       go_wp2
       go_ret2
       exact ⟨_, by first | rfl | (simp [errW_none, errW_some] <;> rfl) | (simp [*, errW_none, errW_some] <;> rfl), tR HO_4.out, zi65, zb, zk⟩

mutual
def spec_l91Records.l0 : Nat → Int → List (S63) → Int → Int → Int → List Int → Int → Option ((List (S63)) × Int)
 | 0, _, _, _, _, _, _, _ => none
 | k + 1, x1, x7, x8, x9, x10, x1000, x1001 => if x10 < x8 then ((spec_l91Part.f k x1000 x1001).bind fun bt135 => ((spec_l91Part.f k x1000 bt135.2.2).bind fun bt140 => (if bt135.1 = true then ((spec_l6Rd_pick.f k x1000 bt140.2.2 2).bind fun bt145 => (spec_l91Records.j1 k x1 x7 x8 x9 x10 bt140.1 bt140.2.1 (bt145.1 == 0) x1000 bt145.2 x1 x9 bt135.1 bt135.2.1 false)) else (spec_l91Records.j1 k x1 x7 x8 x9 x10 bt140.1 bt140.2.1 false x1000 bt140.2.2 x1 x9 bt135.1 bt135.2.1 false)))) else (some (x7, x1001))
def spec_l91Records.j1 : Nat → Int → List (S63) → Int → Int → Int → Bool → List Int → Bool → List Int → Int → Int → Int → Bool → List Int → Bool → Option ((List (S63)) × Int)
 | 0, _, _, _, _, _, _, _, _, _, _, _, _, _, _, _ => none
 | k + 1, x1, x7, x8, x9, x10, x14, x15, x50, x1000, x1001, x135000, x135001, x135002, x135003, x135004 => if x50 = true then ((spec_l6Rd_pick.f k x1000 x1001 3).bind fun bt147 => (if x7.length < 1759218604441 then ((spec_l6Rd_pick.f k x1000 bt147.2 5).bind fun bt155 => ((spec_l6Rd_pick.f k x1000 bt155.2 30).bind fun bt157 => (spec_l91Records.l0 k (wrap64 ((wrap64 (x1 + 1)) + (wrap64 (Int.tdiv bt155.1 4)))) (x7 ++ [(⟨x135000, x135001, x135002, (([bt147.1] : List Int)), x14, x15⟩ : S63)]) x8 (mx (wrap64 ((wrap64 (x9 + bt157.1)) - 6)) 0) (wrap64 (x10 + 1)) x1000 bt157.2))) else (none))) else (if x7.length < 1759218604441 then ((spec_l6Rd_pick.f k x1000 x1001 5).bind fun bt162 => ((spec_l6Rd_pick.f k x1000 bt162.2 30).bind fun bt164 => (spec_l91Records.l0 k (wrap64 ((wrap64 (x1 + 1)) + (wrap64 (Int.tdiv bt162.1 4)))) (x7 ++ [(⟨x135000, x135001, x135002, x135003, x14, x15⟩ : S63)]) x8 (mx (wrap64 ((wrap64 (x9 + bt164.1)) - 6)) 0) (wrap64 (x10 + 1)) x1000 bt164.2))) else (none))
end
def spec_l91Records.f (k : Nat) (s0_0 : List Int) (s0_1 : Int) (a1 : Int) (a2 : Int) : Option ((List (S63)) × Int) := (spec_l6Rd_pick.f k s0_0 s0_1 a2).bind fun bt130 => ((spec_l6Rd_pick.f k s0_0 bt130.2 200).bind fun bt132 => (spec_l91Records.l0 k a1 (([] : List (S63))) (wrap64 (1 + bt130.1)) bt132.1 0 s0_0 bt132.2))
set_option maxHeartbeats 8000000 in
set_option maxRecDepth 100000 in
theorem spec_l91Records.calls (k : Nat) (g : Nat) (s0_0 : List Int) (s0_1 : Int) (a1 : Int) (a2 : Int) (r1 : List (S63)) (r2 : Int) (w0 w : World) (hI : IsS65 w0 w g s0_0 s0_1) (hB : Below w0.heap.size w0 w) (h : spec_l91Records.f k s0_0 s0_1 a1 a2 = some (r1, r2)) :
  Calls Try.prog 36 #[.pointer (some ⟨g, 0, none⟩), .int .i64 a1, .int .i64 a2] w fun e w' => ∃ v0_ : Value, e = .returned (v0_) ∧ Kd.S k63 63 w' w.heap.size (fun _ => True) v0_ r1 ∧ IsS65 w0 w' g s0_0 r2 ∧ Below w0.heap.size w0 w' ∧ KeepBut w w' g none := by
 have hu63 := Try.underlying63
 have HI0 := Aside0.mk hI
 have HK := Aside0.mk (KeepBut.refl w g none)
 have HL := Aside0.mk hB.size
 clear hI
 have HW0 := Aside0.mk hB.size
 have HB := Aside0.mk hB
 clear hB
 have H : ((spec_l6Rd_pick.f k s0_0 s0_1 a2).bind fun bt130 => ((spec_l6Rd_pick.f k s0_0 bt130.2 200).bind fun bt132 => (spec_l91Records.l0 k a1 (([] : List (S63))) (wrap64 (1 + bt130.1)) bt132.1 0 s0_0 bt132.2))) = some (r1, r2) := h
 clear h
 obtain ⟨y127, hy127⟩ : ∃ y_ : List (S63), y_ = (([] : List (S63))) := ⟨_, rfl⟩
 replace H : ((spec_l6Rd_pick.f k s0_0 s0_1 a2).bind fun bt130 => ((spec_l6Rd_pick.f k s0_0 bt130.2 200).bind fun bt132 => (spec_l91Records.l0 k a1 y127 (wrap64 (1 + bt130.1)) bt132.1 0 s0_0 bt132.2))) = some (r1, r2) := by first | (rw [hy127]; with_reducible exact H) | (have H2_ := (Option.bind_some _ _).symm.trans H; rw [hy127]; with_reducible exact H2_) | (have H2_ := (Option.bind_some _ _).symm.trans H; with_reducible exact H2_) | with_reducible exact H | (rw [hy127]; exact H) | exact H
 have Ny127 := Aside0.mk hy127
 clear hy127
 replace H := tbe H
 obtain ⟨⟨t130, t131⟩, A4, H⟩ := H
 dsimp only at H
 replace H := tbe H
 obtain ⟨⟨t132, t133⟩, A5, H⟩ := H
 dsimp only at H
 have H' := Aside0.mk H
 clear H
 go_enter Try.func36, Try.ntmps36
 go_wp2_with (first | ((with_reducible refine gate_dst (N := 16) rfl ?_); refine Kd.S_lit k63 _ 63 ?hg (N := 16) ?hd (xs := ([] : List (S63))) (inner := []) (ok := fun _ => True) (okp := fun _ => True) ?hr ?hp (fun _ hk => hk) trivial (Below.refl _ _) (Nat.le_refl _) (by simp) ?_; (case hd => rfl); (case hg => rfl); (case hr => first | (go_simp; done) | (go_simp; rfl)); (case hp => exact (Reps.none _ _)); intro v128 w6 ho7 hb hg_ hnew_; clear hg_ hnew_; (first | rw [← Ny127.out] at ho7 | (simp only [Int.reduceToNat] at ho7; rw [← Ny127.out] at ho7)); have HO129 := Aside0.mk (Kd.S_lower ho7 (keep_size (w := w) (g := g) (row := none) zk)); replace HI0 := tIb65 HI0 hb; replace HK := tKb HK hb; replace HB := tBs HB hb; clear hb ho7) | ((with_reducible refine gate_callee (f := 26) rfl ?_); refine goesL_ (some 19) rfl rfl Try.func26 (by kernel_rfl) rfl #[.pointer (some ⟨g, 0, none⟩), .int .i64 a2] rfl tq ?_; (with_reducible refine (spec_l6Rd_pick.calls k g s0_0 s0_1 a2 t130 t131 w0 _ ?side1 ?side2 A4.out).mono ?_); (case side1 => exact zi65); (case side2 => exact zb); rintro e w8 ⟨rfl, hi, hb, hk⟩; refine ⟨_, rfl, ?_⟩; replace HO129 := tSp65 HO129 HI0 hk; replace HK := tKt HK hk; replace HB := Aside0.mk (hb); replace HI0 := Aside0.mk (hi); (try clear hb); (try clear hb2); (try clear hk); (try clear hi)) | ((with_reducible refine gate_callee (f := 26) rfl ?_); refine goesL_ (some 22) rfl rfl Try.func26 (by kernel_rfl) rfl #[.pointer (some ⟨g, 0, none⟩), .int .i64 200] rfl tq ?_; (with_reducible refine (spec_l6Rd_pick.calls k g s0_0 t131 200 t132 t133 w0 _ ?side1 ?side2 A5.out).mono ?_); (case side1 => exact zi65); (case side2 => exact zb); rintro e w9 ⟨rfl, hi, hb, hk⟩; refine ⟨_, rfl, ?_⟩; replace HO129 := tSp65 HO129 HI0 hk; replace HK := tKt HK hk; replace HB := Aside0.mk (hb); replace HI0 := Aside0.mk (hi); (try clear hb); (try clear hb2); (try clear hk); (try clear hi)))
 go_loopg [1, 7, 9, 10] k (fun kq v1 v7 v9 v10 w' => ∃ (x1_1 : Int) (x7_1 : List (S63)) (x9_1 : Int) (x10_1 : Int) (x1001_1 : Int), v1 = .int .i64 x1_1 ∧ v9 = .int .i64 x9_1 ∧ v10 = .int .i64 x10_1 ∧ Aside0 (spec_l91Records.l0 kq x1_1 x7_1 (wrap64 (1 + t130)) x9_1 x10_1 s0_0 x1001_1 = some (r1, r2)) ∧ Aside0 (kq ≤ k) ∧ Aside0 (Kd.S k63 63 w' w.heap.size (fun _ => True) v7 x7_1) ∧ Aside0 (IsS65 w0 w' g s0_0 x1001_1) ∧ Aside0 (KeepBut w w' g none) ∧ Aside0 (Below w0.heap.size w0 w'))
 case atStart => exact ⟨(a1), (y127), (t132), (0), (t133), tr, tr, tr, H', ⟨Nat.le_refl _⟩, ⟨tS HO129.out⟩, ⟨zi65⟩, ⟨zk⟩, ⟨zb⟩⟩
 case round =>
  clear H'
  obtain ⟨x1_1, x7_1, x9_1, x10_1, x1001_1, rfl, rfl, rfl, HA, HK1, HO_7, HI0, HK, HB⟩ := hrel
  cases gk with
  | zero => exact absurd HA.out (by simp [spec_l91Records.l0])
  | succ k1 =>
   have H := HA.out
   clear HA
   simp only [spec_l91Records.l0] at H
   by_cases c10 : x10_1 < (wrap64 (1 + t130))
   ·rw [if_pos c10] at H
    have c10b0 : decide (x10_1 < (wrap64 (1 + t130))) = true := decide_eq_true c10
    clear c10
    replace H := tbe H
    obtain ⟨⟨t135, t136, t139⟩, A11, H⟩ := H
    dsimp only at H
    replace H := tbe H
    obtain ⟨⟨t140, t141, t144⟩, A12, H⟩ := H
    dsimp only at H
    have HC13 := Aside0.mk H
    clear H
    go_upto_region 12 with (first | ((with_reducible refine gate_dst (N := 11) rfl ?_); refine box_event ?hg (N := 11) ?hd (cs := #[.int .i64 0, .int .i64 0, .bool false, .slice none 0 0, .bool false, .slice none 0 0]) (t := 63) ?hr ?_; (case hd => rfl); (case hg => rfl); (case hr => first | (go_simp; done) | (go_simp; rfl)); intro gb134 hg w14 hbox hb; replace HO_7 := tSB HO_7 hg hb; replace HB := tBs HB hb; have BK134 := Aside0.mk (hbox); have GW134 := Aside0.mk ((by rw [hg]; exact (keep_size (w := w) (g := g) (row := none) zk) : w.heap.size ≤ gb134)); have GE134 := Aside0.mk ((Nat.le_trans HW0.out (by rw [hg]; exact (keep_size (w := w) (g := g) (row := none) zk) : w.heap.size ≤ gb134) : w0.heap.size ≤ gb134)); replace HK := tKb HK hb; have NB0_134 := Aside0.mk ((by rw [hg]; exact Nat.ne_of_lt (IsS65.lt (show IsS65 w0 _ g s0_0 x1001_1 from zi65)) : g ≠ gb134)); have NB134_0 := Aside0.mk ((by rw [hg]; exact Nat.ne_of_gt (IsS65.lt (show IsS65 w0 _ g s0_0 x1001_1 from zi65)) : gb134 ≠ g)); replace HI0 := tIb65 HI0 hb; clear hb hbox hg; have hnb15 := NB134_0.out; have hnc15 := NB0_134.out; obtain ⟨hcz16_0, hcz16_1, hcz16_2, hcz16_3, hcz16_4, hcz16_5, hfz16_0, hfz16_1, hfz16_2, hfz16_3, hfz16_4, hfz16_5⟩ := cells6 BK134.out) | ((with_reducible refine gate_callee (f := 51) rfl ?_); refine goesL_ (some 33) rfl rfl Try.func51 (by kernel_rfl) rfl #[.pointer (some ⟨g, 0, none⟩)] rfl tq ?_; (with_reducible refine (spec_l91Part.calls k1 g s0_0 x1001_1 t135 t136 t139 w0 _ ?side1 ?side2 A11.out).mono ?_); (case side1 => exact zi65); (case side2 => exact zb); rintro e w17 ⟨v137, rfl, ho0, hi, hb, hk⟩; have u_v137 := tsv Try.prog v137 ho0; refine ⟨_, rfl, ?_⟩; replace HO_7 := Aside0.mk (Kd.S_mono (Kd.S_told (Kd.S_oldK (IsS65.apartS (show IsS65 w0 _ g s0_0 x1001_1 from zi65) (tS HO_7.out) (by decide)) hk) (Kd.R_base ho0)) (fun _ h_ => h_.1)); replace BK134 := tBq (o' := .cells #[.int .i64 x1_1, .int .i64 x9_1, .bool false, .slice none 0 0, .bool false, .slice none 0 0] 63 (0, 0)) BK134 hk NB134_0; have HO138 := Aside0.mk (Kd.R_lower ho0 (keep_size (w := w) (g := g) (row := none) zk)); replace HK := tKt HK hk; replace HB := Aside0.mk (hb); replace HI0 := Aside0.mk (hi); (try clear hb); (try clear hb2); (try clear hk); (try clear hi); (try clear ho0)) | ((with_reducible refine gate_callee (f := 51) rfl ?_); refine goesL_ (some 38) rfl rfl Try.func51 (by kernel_rfl) rfl #[.pointer (some ⟨g, 0, none⟩)] rfl tq ?_; (with_reducible refine (spec_l91Part.calls k1 g s0_0 t139 t140 t141 t144 w0 _ ?side1 ?side2 A12.out).mono ?_); (case side1 => exact zi65); (case side2 => exact zb); rintro e w18 ⟨v142, rfl, ho0, hi, hb, hk⟩; have u_v142 := tsv Try.prog v142 ho0; refine ⟨_, rfl, ?_⟩; replace HO_7 := Aside0.mk (Kd.S_mono (Kd.S_told (Kd.S_oldK (IsS65.apartS (show IsS65 w0 _ g s0_0 t139 from zi65) (tS HO_7.out) (by decide)) hk) (Kd.R_base ho0)) (fun _ h_ => h_.1)); replace BK134 := tBk BK134 hk NB134_0; have HO143 := Aside0.mk (Kd.R_lower (Kd.R_new' ho0 (Kd.R_lt (tR HO138.out))) (keep_size (w := w) (g := g) (row := none) zk)); replace HO138 := Aside0.mk (Kd.R_mono (Kd.R_told (Kd.R_oldK (IsS65.apart (show IsS65 w0 _ g s0_0 t139 from zi65) (tR HO138.out) (by decide)) hk) (Kd.R_base ho0)) (fun _ h_ => h_.1)); replace HK := tKt HK hk; replace HB := Aside0.mk (hb); replace HI0 := Aside0.mk (hi); (try clear hb); (try clear hb2); (try clear hk); (try clear hi); (try clear ho0); obtain ⟨hcz19_0, hcz19_1, hcz19_2, hcz19_3, hcz19_4, hcz19_5, hfz19_0, hfz19_1, hfz19_2, hfz19_3, hfz19_4, hfz19_5⟩ := cells6 BK134.out; obtain ⟨Ao20, co20, eo20⟩ := Kd.R_slice HO138.out; subst eo20))
    (try simp only [Act.put, List.setIfInBounds_toArray, List.set_cons_zero, List.set_cons_succ])
    go_cut [50] (fun v50 wc => ∃ (kq : Nat) (x50_12 : Bool) (x1001_12 : Int), v50 = .bool x50_12 ∧ Aside0 (spec_l91Records.j1 kq x1_1 x7_1 (wrap64 (1 + t130)) x9_1 x10_1 t140 t141 x50_12 s0_0 x1001_12 x1_1 x9_1 t135 t136 false = some (r1, r2)) ∧ Aside0 (kq ≤ k1) ∧ Aside0 (Kd.S k63 63 wc w.heap.size (fun k_ => some k_ ≠ (v142 : Value).ownBlock ∧ some k_ ≠ ((.slice Ao20 t136.length co20) : Value).ownBlock ∧ k_ ≠ gb134) u7 x7_1) ∧ Aside0 (Kd.R (Kd.int .i64) 3 wc w.heap.size (fun k_ => some k_ ≠ ((.slice Ao20 t136.length co20) : Value).ownBlock) v142 t141) ∧ Aside0 (Kd.R (Kd.int .i64) 3 wc w.heap.size (fun k_ => some k_ ≠ (v142 : Value).ownBlock) (.slice Ao20 t136.length co20) t136) ∧ Aside0 (wc.heap[gb134]? = some (.cells #[.int .i64 x1_1, .int .i64 x9_1, .bool t135, (.slice Ao20 t136.length co20), .bool false, (.slice none 0 0)] 63 (0, 0))) ∧ Aside0 (IsS65 w0 wc g s0_0 x1001_12) ∧ Aside0 (KeepBut w wc g none) ∧ Aside0 (Below w0.heap.size w0 wc))
    case first =>
     have H := HC13.out
     clear HC13
     by_cases c21 : t135 = true
     ·subst c21
      rw [if_pos rfl] at H
      replace H := tbe H
      obtain ⟨⟨t145, t146⟩, A22, H⟩ := H
      dsimp only at H
      have H' := Aside0.mk H
      clear H
      go_wp2_with (first | (go_at_call 26; (with_reducible refine (spec_l6Rd_pick.calls k1 g s0_0 t144 2 t145 t146 w0 _ ?side1 ?side2 A22.out).mono ?_); (case side1 => exact zi65); (case side2 => exact zb); rintro e w23 ⟨rfl, hi, hb, hk⟩; replace HO_7 := tSp65 HO_7 HI0 hk; replace HO138 := Aside0.mk (Kd.R_mono (Kd.R_keep (IsS65.apart (show IsS65 w0 _ g s0_0 t144 from zi65) (tRt HO138.out BK134.out) (by decide)) hk (fun _ h => h.2)) (fun _ h => h.1)); replace HO143 := Aside0.mk (Kd.R_mono (Kd.R_keep (IsS65.apart (show IsS65 w0 _ g s0_0 t144 from zi65) (tRt HO143.out BK134.out) (by decide)) hk (fun _ h => h.2)) (fun _ h => h.1)); replace BK134 := tBq (o' := .cells #[.int .i64 x1_1, .int .i64 x9_1, .bool true, .slice Ao20 t136.length co20, .bool false, .slice none 0 0] 63 (0, 0)) BK134 hk NB134_0; replace HK := tKt HK hk; replace HB := Aside0.mk (hb); replace HI0 := Aside0.mk (hi); (try clear hb); (try clear hb2); (try clear hk); (try clear hi)))
      go_meet
      case rel => exact ⟨_, ((t145 == 0)), (t146), tr, H', ⟨by have := HK1.out; first | omega | exact Nat.le_refl _⟩, ⟨tSm HO_7.out⟩, ⟨tRm HO143.out⟩, ⟨tRm HO138.out⟩, ⟨tH BK134.out⟩, ⟨zi65⟩, ⟨zk⟩, ⟨zb⟩⟩
     ·replace c21 := Bool.eq_false_iff.mpr c21
      subst c21
      rw [if_neg (show ¬ (false = true) by decide)] at H
      have H' := Aside0.mk H
      clear H
      go_wp2
      go_meet
      case rel => exact ⟨_, (false), (t144), tr, H', ⟨by have := HK1.out; first | omega | exact Nat.le_refl _⟩, ⟨tSm HO_7.out⟩, ⟨tRm (Kd.R_types HO143.out BK134.out (by decide))⟩, ⟨tRm (Kd.R_types HO138.out BK134.out (by decide))⟩, ⟨tP BK134.out⟩, ⟨zi65⟩, ⟨zk⟩, ⟨zb⟩⟩
    case rest =>
     clear HC13
     try clear c10; try clear c10b0; try clear hcz16_0; try clear hcz16_1; try clear hcz16_2; try clear hcz16_3; try clear hcz16_4; try clear hcz16_5; try clear hcz19_0; try clear hcz19_1; try clear hcz19_2; try clear hcz19_3; try clear hcz19_4; try clear hcz19_5; try clear hfz16_0; try clear hfz16_1; try clear hfz16_2; try clear hfz16_3; try clear hfz16_4; try clear hfz16_5; try clear hfz19_0; try clear hfz19_1; try clear hfz19_2; try clear hfz19_3; try clear hfz19_4; try clear hfz19_5
     obtain ⟨kq, x50_12, x1001_12, rfl, HA, HJ12, HO_7, HO_15, HO_135003, BK134, HI0, HK, HB⟩ := hcut
     cases kq with
     | zero => exact absurd HA.out (by simp [spec_l91Records.j1])
     | succ kj12 =>
      have H := HA.out
      clear HA
      simp only [spec_l91Records.j1] at H
      by_cases c24 : x50_12 = true
      ·subst c24
       rw [if_pos rfl] at H
       replace H := tbe H
       obtain ⟨⟨t147, t148⟩, A25, H⟩ := H
       dsimp only at H
       obtain ⟨y149, hy149⟩ : ∃ y_ : List Int, y_ = (([t147] : List Int)) := ⟨_, rfl⟩
       replace H : (if x7_1.length < 1759218604441 then ((spec_l6Rd_pick.f kj12 s0_0 t148 5).bind fun bt155 => ((spec_l6Rd_pick.f kj12 s0_0 bt155.2 30).bind fun bt157 => (spec_l91Records.l0 kj12 (wrap64 ((wrap64 (x1_1 + 1)) + (wrap64 (Int.tdiv bt155.1 4)))) (x7_1 ++ [(⟨x1_1, x9_1, t135, y149, t140, t141⟩ : S63)]) (wrap64 (1 + t130)) (mx (wrap64 ((wrap64 (x9_1 + bt157.1)) - 6)) 0) (wrap64 (x10_1 + 1)) s0_0 bt157.2))) else (none)) = some (r1, r2) := by first | (rw [hy149]; with_reducible exact H) | (have H2_ := (Option.bind_some _ _).symm.trans H; rw [hy149]; with_reducible exact H2_) | (have H2_ := (Option.bind_some _ _).symm.trans H; with_reducible exact H2_) | with_reducible exact H | (rw [hy149]; exact H) | exact H
       have Ny149 := Aside0.mk hy149
       clear hy149
       by_cases c26 : x7_1.length < 1759218604441
       ·rw [if_pos c26] at H
        have LMc26 := Aside0.mk c26
        clear c26
        obtain ⟨y152, hy152⟩ : ∃ y_ : List (S63), y_ = (x7_1 ++ [(⟨x1_1, x9_1, t135, y149, t140, t141⟩ : S63)]) := ⟨_, rfl⟩
        replace H : ((spec_l6Rd_pick.f kj12 s0_0 t148 5).bind fun bt155 => ((spec_l6Rd_pick.f kj12 s0_0 bt155.2 30).bind fun bt157 => (spec_l91Records.l0 kj12 (wrap64 ((wrap64 (x1_1 + 1)) + (wrap64 (Int.tdiv bt155.1 4)))) y152 (wrap64 (1 + t130)) (mx (wrap64 ((wrap64 (x9_1 + bt157.1)) - 6)) 0) (wrap64 (x10_1 + 1)) s0_0 bt157.2))) = some (r1, r2) := by first | (rw [hy152]; with_reducible exact H) | (have H2_ := (Option.bind_some _ _).symm.trans H; rw [hy152]; with_reducible exact H2_) | (have H2_ := (Option.bind_some _ _).symm.trans H; with_reducible exact H2_) | with_reducible exact H | (rw [hy152]; exact H) | exact H
        have Ny152 := Aside0.mk hy152
        clear hy152
        replace H := tbe H
        obtain ⟨⟨t155, t156⟩, A27, H⟩ := H
        dsimp only at H
        replace H := tbe H
        obtain ⟨⟨t157, t158⟩, A28, H⟩ := H
        dsimp only at H
        obtain ⟨ji29, hji29⟩ : ∃ j_ : Int, (mx (wrap64 ((wrap64 (x9_1 + t157)) - 6)) 0) = j_ := ⟨_, rfl⟩
        replace H : (spec_l91Records.l0 kj12 (wrap64 ((wrap64 (x1_1 + 1)) + (wrap64 (Int.tdiv t155 4)))) y152 (wrap64 (1 + t130)) ji29 (wrap64 (x10_1 + 1)) s0_0 t158) = some (r1, r2) := by first | (rw [hji29] at H; exact H) | (simp only [hji29] at H ⊢; exact H)
        (try rw [hji29] at A25)
        (try rw [hji29] at A27)
        (try rw [hji29] at A28)
        have hji29_ : (if (wrap64 ((wrap64 (x9_1 + t157)) - 6)) < 0 then 0 else (wrap64 ((wrap64 (x9_1 + t157)) - 6))) = ji29 := hji29
        have H' := Aside0.mk H
        clear H
        go_wp2_with (first | ((with_reducible refine gate_callee (f := 26) rfl ?_); refine goesL_ (some 52) rfl rfl Try.func26 (by kernel_rfl) rfl #[.pointer (some ⟨g, 0, none⟩), .int .i64 3] rfl tq ?_; (with_reducible refine (spec_l6Rd_pick.calls kj12 g s0_0 x1001_12 3 t147 t148 w0 _ ?side1 ?side2 A25.out).mono ?_); (case side1 => exact zi65); (case side2 => exact zb); rintro e w30 ⟨rfl, hi, hb, hk⟩; refine ⟨_, rfl, ?_⟩; replace HO_7 := tSp65 HO_7 HI0 hk; replace HO_15 := tRp65 HO_15 HI0 hk; replace HO_135003 := tRp65 HO_135003 HI0 hk; replace BK134 := tBk BK134 hk NB134_0; replace HK := tKt HK hk; replace HB := Aside0.mk (hb); replace HI0 := Aside0.mk (hi); (try clear hb); (try clear hb2); (try clear hk); (try clear hi)) | ((with_reducible refine gate_dst (N := 53) rfl ?_); refine Kd.R_lit (Kd.int .i64) _ 3 ?hg (N := 53) ?hd (xs := ([t147] : List Int)) (inner := [.int .i64 t147]) (ok := fun _ => True) (okp := fun _ => True) ?hr ?hp (fun _ hk => hk) trivial (Below.refl _ _) (Nat.le_refl _) (by simp) ?_; (case hd => rfl); (case hg => rfl); (case hr => first | (go_simp; done) | (go_simp; rfl)); (case hp => exact (Reps.one (show Kd.M (Kd.int .i64) _ _ _ t147 [.int .i64 t147] from rfl) (Reps.none _ _))); intro v150 w31 ho32 hb hg_ hnew_; clear hg_ hnew_; (first | rw [← Ny149.out] at ho32 | (simp only [Int.reduceToNat] at ho32; rw [← Ny149.out] at ho32)); replace HO_7 := Aside0.mk (Kd.S_elder' (tS HO_7.out) (Kd.R_base ho32) hb); have HO151 := Aside0.mk (Kd.R_lower (Kd.R_new' (Kd.R_new' ho32 (Kd.R_lt (tR HO_15.out))) (Kd.R_lt (tR HO_135003.out))) (keep_size (w := w) (g := g) (row := none) zk)); replace HO_15 := Aside0.mk (Kd.R_elder' (tR HO_15.out) (Kd.R_base ho32) hb); replace HO_135003 := Aside0.mk (Kd.R_elder' (tR HO_135003.out) (Kd.R_base ho32) hb); replace BK134 := tBb BK134 hb; replace HI0 := tIb65 HI0 hb; replace HK := tKb HK hb; replace HB := tBs HB hb; clear hb ho32; obtain ⟨Ao33, co33, eo33⟩ := Kd.R_slice HO151.out; subst eo33; have hnb34 := NB134_0.out; have hnc34 := NB0_134.out; obtain ⟨hcz35_0, hcz35_1, hcz35_2, hcz35_3, hcz35_4, hcz35_5, hfz35_0, hfz35_1, hfz35_2, hfz35_3, hfz35_4, hfz35_5⟩ := cells6 BK134.out) | ((with_reducible refine gate_store (t := 26) (p := 54) rfl ?_); refine store_event (t := 26) (p := 54) (v := ?vo_w36) (w1 := (w31.setCell ⟨gb134, 3, none⟩ (.slice Ao33 y149.length co33))) ?hg ?ho ?hn ?hr ?_; (case ho => rfl); (case hg => rfl); (case hn => rfl); (case hr => first | (go_simp; done) | (go_simp; rfl)); intro w36 hw; have n0_ : Aside0 (Kd.S k63 63 w36 w.heap.size (fun k_ => some k_ ≠ (v142 : Value).ownBlock ∧ some k_ ≠ (.slice Ao20 t136.length co20 : Value).ownBlock ∧ some k_ ≠ (.slice Ao33 y149.length co33 : Value).ownBlock ∧ k_ ≠ gb134) u7 x7_1) := ⟨(by rw [hw]; exact (tSm HO_7.out))⟩; have n1_ : Aside0 (Kd.R (Kd.int .i64) 3 w36 w.heap.size (fun k_ => some k_ ≠ (.slice Ao20 t136.length co20 : Value).ownBlock ∧ some k_ ≠ (.slice Ao33 y149.length co33 : Value).ownBlock) v142 t141) := ⟨(by rw [hw]; exact (tRm (Kd.R_types HO_15.out BK134.out (by decide))))⟩; have n2_ : Aside0 (Kd.R (Kd.int .i64) 3 w36 w.heap.size (fun k_ => some k_ ≠ (v142 : Value).ownBlock ∧ some k_ ≠ (.slice Ao33 y149.length co33 : Value).ownBlock) (.slice Ao20 t136.length co20) t136) := ⟨(by rw [hw]; exact (tRm (Kd.R_types HO_135003.out BK134.out (by decide))))⟩; have n3_ : Aside0 (Kd.R (Kd.int .i64) 3 w36 w.heap.size (fun k_ => some k_ ≠ (v142 : Value).ownBlock ∧ some k_ ≠ (.slice Ao20 t136.length co20 : Value).ownBlock) (.slice Ao33 y149.length co33) y149) := ⟨(by rw [hw]; exact (tRm (Kd.R_types HO151.out BK134.out (by decide))))⟩; have n4_ : Aside0 (w36.heap[gb134]? = some (.cells #[.int .i64 x1_1, .int .i64 x9_1, .bool t135, .slice Ao33 y149.length co33, .bool false, .slice none 0 0] 63 (0, 0))) := ⟨(by rw [hw]; exact (tP BK134.out))⟩; have n5_ : Aside0 (IsS65 w0 w36 g s0_0 t148) := ⟨(by rw [hw]; exact zi65)⟩; have n6_ : Aside0 (KeepBut w w36 g none) := ⟨(by rw [hw]; exact zk)⟩; have n7_ : Aside0 (Below w0.heap.size w0 w36) := ⟨(by rw [hw]; exact zb)⟩; clear hw; clear HO_7; clear HO_15; clear HO_135003; clear HO151; clear BK134; clear HI0; clear HK; clear HB; have HO_7 := n0_; have HO_15 := n1_; have HO_135003 := n2_; have HO151 := n3_; have BK134 := n4_; have HI0 := n5_; have HK := n6_; have HB := n7_; clear n0_ n1_ n2_ n3_ n4_ n5_ n6_ n7_; obtain ⟨hcz37_0, hcz37_1, hcz37_2, hcz37_3, hcz37_4, hcz37_5, hfz37_0, hfz37_1, hfz37_2, hfz37_3, hfz37_4, hfz37_5⟩ := cells6 BK134.out) | ((with_reducible refine gate_store (t := 4) (p := 56) rfl ?_); refine store_event (t := 4) (p := 56) (v := ?vo_w38) (w1 := (w36.setCell ⟨gb134, 4, none⟩ (.bool t140))) ?hg ?ho ?hn ?hr ?_; (case ho => rfl); (case hg => rfl); (case hn => rfl); (case hr => first | (go_simp; done) | (go_simp; rfl)); intro w38 hw; have n0_ : Aside0 (Kd.S k63 63 w38 w.heap.size (fun k_ => some k_ ≠ (v142 : Value).ownBlock ∧ some k_ ≠ (.slice Ao20 t136.length co20 : Value).ownBlock ∧ some k_ ≠ (.slice Ao33 y149.length co33 : Value).ownBlock ∧ k_ ≠ gb134) u7 x7_1) := ⟨(by rw [hw]; exact (tSm HO_7.out))⟩; have n1_ : Aside0 (Kd.R (Kd.int .i64) 3 w38 w.heap.size (fun k_ => some k_ ≠ (.slice Ao20 t136.length co20 : Value).ownBlock ∧ some k_ ≠ (.slice Ao33 y149.length co33 : Value).ownBlock) v142 t141) := ⟨(by rw [hw]; exact (tRm (Kd.R_types HO_15.out BK134.out (by decide))))⟩; have n2_ : Aside0 (Kd.R (Kd.int .i64) 3 w38 w.heap.size (fun k_ => some k_ ≠ (v142 : Value).ownBlock ∧ some k_ ≠ (.slice Ao33 y149.length co33 : Value).ownBlock) (.slice Ao20 t136.length co20) t136) := ⟨(by rw [hw]; exact (tRm (Kd.R_types HO_135003.out BK134.out (by decide))))⟩; have n3_ : Aside0 (Kd.R (Kd.int .i64) 3 w38 w.heap.size (fun k_ => some k_ ≠ (v142 : Value).ownBlock ∧ some k_ ≠ (.slice Ao20 t136.length co20 : Value).ownBlock) (.slice Ao33 y149.length co33) y149) := ⟨(by rw [hw]; exact (tRm (Kd.R_types HO151.out BK134.out (by decide))))⟩; have n4_ : Aside0 (w38.heap[gb134]? = some (.cells #[.int .i64 x1_1, .int .i64 x9_1, .bool t135, .slice Ao33 y149.length co33, .bool t140, .slice none 0 0] 63 (0, 0))) := ⟨(by rw [hw]; exact (tP BK134.out))⟩; have n5_ : Aside0 (IsS65 w0 w38 g s0_0 t148) := ⟨(by rw [hw]; exact zi65)⟩; have n6_ : Aside0 (KeepBut w w38 g none) := ⟨(by rw [hw]; exact zk)⟩; have n7_ : Aside0 (Below w0.heap.size w0 w38) := ⟨(by rw [hw]; exact zb)⟩; clear hw; clear HO_7; clear HO_15; clear HO_135003; clear HO151; clear BK134; clear HI0; clear HK; clear HB; have HO_7 := n0_; have HO_15 := n1_; have HO_135003 := n2_; have HO151 := n3_; have BK134 := n4_; have HI0 := n5_; have HK := n6_; have HB := n7_; clear n0_ n1_ n2_ n3_ n4_ n5_ n6_ n7_; obtain ⟨Ao39, co39, eo39⟩ := Kd.R_slice HO_15.out; subst eo39; obtain ⟨hcz40_0, hcz40_1, hcz40_2, hcz40_3, hcz40_4, hcz40_5, hfz40_0, hfz40_1, hfz40_2, hfz40_3, hfz40_4, hfz40_5⟩ := cells6 BK134.out) | ((with_reducible refine gate_store (t := 26) (p := 58) rfl ?_); refine store_event (t := 26) (p := 58) (v := ?vo_w41) (w1 := (w38.setCell ⟨gb134, 5, none⟩ (.slice Ao39 t141.length co39))) ?hg ?ho ?hn ?hr ?_; (case ho => rfl); (case hg => rfl); (case hn => rfl); (case hr => first | (go_simp; done) | (go_simp; rfl)); intro w41 hw; have n0_ : Aside0 (Kd.S k63 63 w41 w.heap.size (fun k_ => some k_ ≠ (.slice Ao39 t141.length co39 : Value).ownBlock ∧ some k_ ≠ (.slice Ao20 t136.length co20 : Value).ownBlock ∧ some k_ ≠ (.slice Ao33 y149.length co33 : Value).ownBlock ∧ k_ ≠ gb134) u7 x7_1) := ⟨(by rw [hw]; exact (tSm HO_7.out))⟩; have n1_ : Aside0 (Kd.R (Kd.int .i64) 3 w41 w.heap.size (fun k_ => some k_ ≠ (.slice Ao20 t136.length co20 : Value).ownBlock ∧ some k_ ≠ (.slice Ao33 y149.length co33 : Value).ownBlock) (.slice Ao39 t141.length co39) t141) := ⟨(by rw [hw]; exact (tRm (Kd.R_types HO_15.out BK134.out (by decide))))⟩; have n2_ : Aside0 (Kd.R (Kd.int .i64) 3 w41 w.heap.size (fun k_ => some k_ ≠ (.slice Ao39 t141.length co39 : Value).ownBlock ∧ some k_ ≠ (.slice Ao33 y149.length co33 : Value).ownBlock) (.slice Ao20 t136.length co20) t136) := ⟨(by rw [hw]; exact (tRm (Kd.R_types HO_135003.out BK134.out (by decide))))⟩; have n3_ : Aside0 (Kd.R (Kd.int .i64) 3 w41 w.heap.size (fun k_ => some k_ ≠ (.slice Ao39 t141.length co39 : Value).ownBlock ∧ some k_ ≠ (.slice Ao20 t136.length co20 : Value).ownBlock) (.slice Ao33 y149.length co33) y149) := ⟨(by rw [hw]; exact (tRm (Kd.R_types HO151.out BK134.out (by decide))))⟩; have n4_ : Aside0 (w41.heap[gb134]? = some (.cells #[.int .i64 x1_1, .int .i64 x9_1, .bool t135, .slice Ao33 y149.length co33, .bool t140, .slice Ao39 t141.length co39] 63 (0, 0))) := ⟨(by rw [hw]; exact (tP BK134.out))⟩; have n5_ : Aside0 (IsS65 w0 w41 g s0_0 t148) := ⟨(by rw [hw]; exact zi65)⟩; have n6_ : Aside0 (KeepBut w w41 g none) := ⟨(by rw [hw]; exact zk)⟩; have n7_ : Aside0 (Below w0.heap.size w0 w41) := ⟨(by rw [hw]; exact zb)⟩; clear hw; clear HO_7; clear HO_15; clear HO_135003; clear HO151; clear BK134; clear HI0; clear HK; clear HB; have HO_7 := n0_; have HO_15 := n1_; have HO_135003 := n2_; have HO151 := n3_; have BK134 := n4_; have HI0 := n5_; have HK := n6_; have HB := n7_; clear n0_ n1_ n2_ n3_ n4_ n5_ n6_ n7_; obtain ⟨hcz42_0, hcz42_1, hcz42_2, hcz42_3, hcz42_4, hcz42_5, hfz42_0, hfz42_1, hfz42_2, hfz42_3, hfz42_4, hfz42_5⟩ := cells6 BK134.out) | ((with_reducible refine gate_builtin (b := .append) (xs := #[.tmp 59, .tmp 61]) rfl ?_); at_builtin; refine Kd.S_append k63 w.heap.size rfl (.tmp 59) (.tmp 61) 44 63 (.agg #[(.int .i64 0), (.int .i64 0), (.bool false), (.slice none 0 0), (.bool false), (.slice none 0 0)]) 80 rfl Try.underlying44 info63 rfl (by decide) (by omega) u7 x7_1 (⟨x1_1, x9_1, t135, y149, t140, t141⟩ : S63) [.int .i64 x1_1, .int .i64 x9_1, .bool t135, .slice Ao33 y149.length co33, .bool t140, .slice Ao39 t141.length co39] (fun k_ => some k_ ≠ (.slice Ao20 t136.length co20 : Value).ownBlock ∧ k_ ≠ gb134) (fun k_ => some k_ = (.slice Ao33 y149.length co33 : Value).ownBlock ∨ some k_ = (.slice Ao39 t141.length co39 : Value).ownBlock) rfl rfl ?aP (fun k_ hk_ => hk_.elim (fun h_ => ((Kd.R_mono (ok' := fun k_ => ((fun k_ => some k_ ≠ (.slice Ao20 t136.length co20 : Value).ownBlock ∧ k_ ≠ gb134)) k_ ∧ some k_ ≠ (u7 : Value).ownBlock) (Kd.R_types (Kd.R_apart' (HO151.out) (Kd.S_typed HO_7.out) (by decide)) BK134.out (by decide)) (fun k_ hk => ⟨⟨hk.1.1.2, hk.2⟩, hk.1.2⟩))).1 k_ h_.symm) (fun h_ => ((Kd.R_mono (ok' := fun k_ => ((fun k_ => some k_ ≠ (.slice Ao20 t136.length co20 : Value).ownBlock ∧ k_ ≠ gb134)) k_ ∧ some k_ ≠ (u7 : Value).ownBlock) (Kd.R_types (Kd.R_apart' (HO_15.out) (Kd.S_typed HO_7.out) (by decide)) BK134.out (by decide)) (fun k_ hk => ⟨⟨hk.1.1.1, hk.2⟩, hk.1.2⟩))).1 k_ h_.symm)) ?aF ?aO (Below.refl _ _) ?aS ?aL ?_; (case aP => exact k63_mkM _ _ _ (⟨x1_1, x9_1, t135, y149, t140, t141⟩ : S63) (Kd.R_mono (Kd.R_tight rfl (Kd.R_mono (ok' := fun k_ => ((fun k_ => some k_ ≠ (.slice Ao20 t136.length co20 : Value).ownBlock ∧ k_ ≠ gb134)) k_ ∧ some k_ ≠ (u7 : Value).ownBlock) (Kd.R_types (Kd.R_apart' (HO151.out) (Kd.S_typed HO_7.out) (by decide)) BK134.out (by decide)) (fun k_ hk => ⟨⟨hk.1.1.2, hk.2⟩, hk.1.2⟩))) (fun _ h_ => Or.inl h_)) (Kd.R_mono (Kd.R_tight rfl (Kd.R_mono (ok' := fun k_ => ((fun k_ => some k_ ≠ (.slice Ao20 t136.length co20 : Value).ownBlock ∧ k_ ≠ gb134)) k_ ∧ some k_ ≠ (u7 : Value).ownBlock) (Kd.R_types (Kd.R_apart' (HO_15.out) (Kd.S_typed HO_7.out) (by decide)) BK134.out (by decide)) (fun k_ hk => ⟨⟨hk.1.1.1, hk.2⟩, hk.1.2⟩))) (fun _ h_ => Or.inr (h_)))); (case aF => exact (fun k_ hk => ⟨Kd.fresh' (Kd.R_lt (tR HO_135003.out)) k_ hk, tfB BK134 k_ hk⟩)); (case aO => exact (tSm HO_7.out)); (case aS => exact (keep_size (w := w) (g := g) (row := none) zk)); (case aL => have := LMc26.out; omega); intro v153 w43 ho hb hg hat; rw [← Ny152.out] at ho; replace HO_135003 := Aside0.mk (Kd.R_over' (tR HO_135003.out) (Kd.S_typed (tS HO_7.out)) (by decide) hg); replace BK134 := Aside0.mk (blk_grown (tH BK134.out) hg (Kd.S_away HO_7.out (fun _ hk => hk.2.2.2))); replace HB := Aside0.mk (below_weaken zb HL.out hb); replace HI0 := Aside0.mk (IsS65.grown zi65 hg (IsS65.own_neS HI0.out HO_7.out (by decide))); replace HK := Aside0.mk (KeepBut.trans zk (KeepBut.of_grown hg g) (Kd.S_base2 HO_7.out)); have HO154 := Aside0.mk (ho); clear HO_7 HO151 HO_15; clear ho hb hg hat) | ((with_reducible refine gate_callee (f := 26) rfl ?_); refine goesL_ (some 66) rfl rfl Try.func26 (by kernel_rfl) rfl #[.pointer (some ⟨g, 0, none⟩), .int .i64 5] rfl tq ?_; (with_reducible refine (spec_l6Rd_pick.calls kj12 g s0_0 t148 5 t155 t156 w0 _ ?side1 ?side2 A27.out).mono ?_); (case side1 => exact zi65); (case side2 => exact zb); rintro e w44 ⟨rfl, hi, hb, hk⟩; refine ⟨_, rfl, ?_⟩; replace HO_135003 := tRp65 HO_135003 HI0 hk; replace BK134 := tBk BK134 hk NB134_0; replace HO154 := tSp65 HO154 HI0 hk; replace HK := tKt HK hk; replace HB := Aside0.mk (hb); replace HI0 := Aside0.mk (hi); (try clear hb); (try clear hb2); (try clear hk); (try clear hi)) | ((with_reducible refine gate_callee (f := 26) rfl ?_); refine goesL_ (some 71) rfl rfl Try.func26 (by kernel_rfl) rfl #[.pointer (some ⟨g, 0, none⟩), .int .i64 30] rfl tq ?_; (with_reducible refine (spec_l6Rd_pick.calls kj12 g s0_0 t156 30 t157 t158 w0 _ ?side1 ?side2 A28.out).mono ?_); (case side1 => exact zi65); (case side2 => exact zb); rintro e w45 ⟨rfl, hi, hb, hk⟩; refine ⟨_, rfl, ?_⟩; replace HO_135003 := tRp65 HO_135003 HI0 hk; replace BK134 := tBk BK134 hk NB134_0; replace HO154 := tSp65 HO154 HI0 hk; replace HK := tKt HK hk; replace HB := Aside0.mk (hb); replace HI0 := Aside0.mk (hi); (try clear hb); (try clear hb2); (try clear hk); (try clear hi)))
        go_roundg kj12
        case measure => have := HK1.out; have := HJ12.out; omega
        case rel => exact ⟨(wrap64 ((wrap64 (x1_1 + 1)) + (wrap64 (Int.tdiv t155 4)))), (y152), (ji29), (wrap64 (x10_1 + 1)), (t158), tr, (by first | rfl | (simp; done) | (simp only [← hji29] <;> (first | rfl | simp)) | (simp [*]; done)), tr, H', ⟨by have := HK1.out; have := HJ12.out; omega⟩, ⟨tSm HO154.out⟩, ⟨zi65⟩, ⟨zk⟩, ⟨zb⟩⟩
       ·rw [if_neg c26] at H
        exact absurd H (by simp)
      ·replace c24 := Bool.eq_false_iff.mpr c24
       subst c24
       rw [if_neg (show ¬ (false = true) by decide)] at H
       by_cases c46 : x7_1.length < 1759218604441
       ·rw [if_pos c46] at H
        have LMc46 := Aside0.mk c46
        clear c46
        obtain ⟨y159, hy159⟩ : ∃ y_ : List (S63), y_ = (x7_1 ++ [(⟨x1_1, x9_1, t135, t136, t140, t141⟩ : S63)]) := ⟨_, rfl⟩
        replace H : ((spec_l6Rd_pick.f kj12 s0_0 x1001_12 5).bind fun bt162 => ((spec_l6Rd_pick.f kj12 s0_0 bt162.2 30).bind fun bt164 => (spec_l91Records.l0 kj12 (wrap64 ((wrap64 (x1_1 + 1)) + (wrap64 (Int.tdiv bt162.1 4)))) y159 (wrap64 (1 + t130)) (mx (wrap64 ((wrap64 (x9_1 + bt164.1)) - 6)) 0) (wrap64 (x10_1 + 1)) s0_0 bt164.2))) = some (r1, r2) := by first | (rw [hy159]; with_reducible exact H) | (have H2_ := (Option.bind_some _ _).symm.trans H; rw [hy159]; with_reducible exact H2_) | (have H2_ := (Option.bind_some _ _).symm.trans H; with_reducible exact H2_) | with_reducible exact H | (rw [hy159]; exact H) | exact H
        have Ny159 := Aside0.mk hy159
        clear hy159
        replace H := tbe H
        obtain ⟨⟨t162, t163⟩, A47, H⟩ := H
        dsimp only at H
        replace H := tbe H
        obtain ⟨⟨t164, t165⟩, A48, H⟩ := H
        dsimp only at H
        obtain ⟨ji49, hji49⟩ : ∃ j_ : Int, (mx (wrap64 ((wrap64 (x9_1 + t164)) - 6)) 0) = j_ := ⟨_, rfl⟩
        replace H : (spec_l91Records.l0 kj12 (wrap64 ((wrap64 (x1_1 + 1)) + (wrap64 (Int.tdiv t162 4)))) y159 (wrap64 (1 + t130)) ji49 (wrap64 (x10_1 + 1)) s0_0 t165) = some (r1, r2) := by first | (rw [hji49] at H; exact H) | (simp only [hji49] at H ⊢; exact H)
        (try rw [hji49] at A47)
        (try rw [hji49] at A48)
        have hji49_ : (if (wrap64 ((wrap64 (x9_1 + t164)) - 6)) < 0 then 0 else (wrap64 ((wrap64 (x9_1 + t164)) - 6))) = ji49 := hji49
        have H' := Aside0.mk H
        clear H
        have hnb50 := NB134_0.out
        have hnc50 := NB0_134.out
        obtain ⟨hcz51_0, hcz51_1, hcz51_2, hcz51_3, hcz51_4, hcz51_5, hfz51_0, hfz51_1, hfz51_2, hfz51_3, hfz51_4, hfz51_5⟩ := cells6 BK134.out
        go_wp2_with (first | ((with_reducible refine gate_store (t := 4) (p := 56) rfl ?_); refine store_event (t := 4) (p := 56) (v := ?vo_w52) (w1 := (wc.setCell ⟨gb134, 4, none⟩ (.bool t140))) ?hg ?ho ?hn ?hr ?_; (case ho => rfl); (case hg => rfl); (case hn => rfl); (case hr => first | (go_simp; done) | (go_simp; rfl)); intro w52 hw; have n0_ : Aside0 (Kd.S k63 63 w52 w.heap.size (fun k_ => some k_ ≠ (v142 : Value).ownBlock ∧ some k_ ≠ (.slice Ao20 t136.length co20 : Value).ownBlock ∧ k_ ≠ gb134) u7 x7_1) := ⟨(by rw [hw]; exact (tSm HO_7.out))⟩; have n1_ : Aside0 (Kd.R (Kd.int .i64) 3 w52 w.heap.size (fun k_ => some k_ ≠ (.slice Ao20 t136.length co20 : Value).ownBlock) v142 t141) := ⟨(by rw [hw]; exact (tRm (Kd.R_types HO_15.out BK134.out (by decide))))⟩; have n2_ : Aside0 (Kd.R (Kd.int .i64) 3 w52 w.heap.size (fun k_ => some k_ ≠ (v142 : Value).ownBlock) (.slice Ao20 t136.length co20) t136) := ⟨(by rw [hw]; exact (tRm (Kd.R_types HO_135003.out BK134.out (by decide))))⟩; have n3_ : Aside0 (w52.heap[gb134]? = some (.cells #[.int .i64 x1_1, .int .i64 x9_1, .bool t135, .slice Ao20 t136.length co20, .bool t140, .slice none 0 0] 63 (0, 0))) := ⟨(by rw [hw]; exact (tP BK134.out))⟩; have n4_ : Aside0 (IsS65 w0 w52 g s0_0 x1001_12) := ⟨(by rw [hw]; exact zi65)⟩; have n5_ : Aside0 (KeepBut w w52 g none) := ⟨(by rw [hw]; exact zk)⟩; have n6_ : Aside0 (Below w0.heap.size w0 w52) := ⟨(by rw [hw]; exact zb)⟩; clear hw; clear HO_7; clear HO_15; clear HO_135003; clear BK134; clear HI0; clear HK; clear HB; have HO_7 := n0_; have HO_15 := n1_; have HO_135003 := n2_; have BK134 := n3_; have HI0 := n4_; have HK := n5_; have HB := n6_; clear n0_ n1_ n2_ n3_ n4_ n5_ n6_; obtain ⟨Ao53, co53, eo53⟩ := Kd.R_slice HO_15.out; subst eo53; obtain ⟨hcz54_0, hcz54_1, hcz54_2, hcz54_3, hcz54_4, hcz54_5, hfz54_0, hfz54_1, hfz54_2, hfz54_3, hfz54_4, hfz54_5⟩ := cells6 BK134.out) | ((with_reducible refine gate_store (t := 26) (p := 58) rfl ?_); refine store_event (t := 26) (p := 58) (v := ?vo_w55) (w1 := (w52.setCell ⟨gb134, 5, none⟩ (.slice Ao53 t141.length co53))) ?hg ?ho ?hn ?hr ?_; (case ho => rfl); (case hg => rfl); (case hn => rfl); (case hr => first | (go_simp; done) | (go_simp; rfl)); intro w55 hw; have n0_ : Aside0 (Kd.S k63 63 w55 w.heap.size (fun k_ => some k_ ≠ (.slice Ao53 t141.length co53 : Value).ownBlock ∧ some k_ ≠ (.slice Ao20 t136.length co20 : Value).ownBlock ∧ k_ ≠ gb134) u7 x7_1) := ⟨(by rw [hw]; exact (tSm HO_7.out))⟩; have n1_ : Aside0 (Kd.R (Kd.int .i64) 3 w55 w.heap.size (fun k_ => some k_ ≠ (.slice Ao20 t136.length co20 : Value).ownBlock) (.slice Ao53 t141.length co53) t141) := ⟨(by rw [hw]; exact (tRm (Kd.R_types HO_15.out BK134.out (by decide))))⟩; have n2_ : Aside0 (Kd.R (Kd.int .i64) 3 w55 w.heap.size (fun k_ => some k_ ≠ (.slice Ao53 t141.length co53 : Value).ownBlock) (.slice Ao20 t136.length co20) t136) := ⟨(by rw [hw]; exact (tRm (Kd.R_types HO_135003.out BK134.out (by decide))))⟩; have n3_ : Aside0 (w55.heap[gb134]? = some (.cells #[.int .i64 x1_1, .int .i64 x9_1, .bool t135, .slice Ao20 t136.length co20, .bool t140, .slice Ao53 t141.length co53] 63 (0, 0))) := ⟨(by rw [hw]; exact (tP BK134.out))⟩; have n4_ : Aside0 (IsS65 w0 w55 g s0_0 x1001_12) := ⟨(by rw [hw]; exact zi65)⟩; have n5_ : Aside0 (KeepBut w w55 g none) := ⟨(by rw [hw]; exact zk)⟩; have n6_ : Aside0 (Below w0.heap.size w0 w55) := ⟨(by rw [hw]; exact zb)⟩; clear hw; clear HO_7; clear HO_15; clear HO_135003; clear BK134; clear HI0; clear HK; clear HB; have HO_7 := n0_; have HO_15 := n1_; have HO_135003 := n2_; have BK134 := n3_; have HI0 := n4_; have HK := n5_; have HB := n6_; clear n0_ n1_ n2_ n3_ n4_ n5_ n6_; obtain ⟨hcz56_0, hcz56_1, hcz56_2, hcz56_3, hcz56_4, hcz56_5, hfz56_0, hfz56_1, hfz56_2, hfz56_3, hfz56_4, hfz56_5⟩ := cells6 BK134.out) | ((with_reducible refine gate_builtin (b := .append) (xs := #[.tmp 59, .tmp 61]) rfl ?_); at_builtin; refine Kd.S_append k63 w.heap.size rfl (.tmp 59) (.tmp 61) 44 63 (.agg #[(.int .i64 0), (.int .i64 0), (.bool false), (.slice none 0 0), (.bool false), (.slice none 0 0)]) 80 rfl Try.underlying44 info63 rfl (by decide) (by omega) u7 x7_1 (⟨x1_1, x9_1, t135, t136, t140, t141⟩ : S63) [.int .i64 x1_1, .int .i64 x9_1, .bool t135, .slice Ao20 t136.length co20, .bool t140, .slice Ao53 t141.length co53] (fun k_ => k_ ≠ gb134) (fun k_ => some k_ = (.slice Ao20 t136.length co20 : Value).ownBlock ∨ some k_ = (.slice Ao53 t141.length co53 : Value).ownBlock) rfl rfl ?aP (fun k_ hk_ => hk_.elim (fun h_ => ((Kd.R_mono (ok' := fun k_ => ((fun k_ => k_ ≠ gb134)) k_ ∧ some k_ ≠ (u7 : Value).ownBlock) (Kd.R_types (Kd.R_apart' (HO_135003.out) (Kd.S_typed HO_7.out) (by decide)) BK134.out (by decide)) (fun k_ hk => ⟨hk.2, hk.1.2⟩))).1 k_ h_.symm) (fun h_ => ((Kd.R_mono (ok' := fun k_ => ((fun k_ => k_ ≠ gb134)) k_ ∧ some k_ ≠ (u7 : Value).ownBlock) (Kd.R_types (Kd.R_apart' (HO_15.out) (Kd.S_typed HO_7.out) (by decide)) BK134.out (by decide)) (fun k_ hk => ⟨hk.2, hk.1.2⟩))).1 k_ h_.symm)) ?aF ?aO (Below.refl _ _) ?aS ?aL ?_; (case aP => exact k63_mkM _ _ _ (⟨x1_1, x9_1, t135, t136, t140, t141⟩ : S63) (Kd.R_mono (Kd.R_tight rfl (Kd.R_mono (ok' := fun k_ => ((fun k_ => k_ ≠ gb134)) k_ ∧ some k_ ≠ (u7 : Value).ownBlock) (Kd.R_types (Kd.R_apart' (HO_135003.out) (Kd.S_typed HO_7.out) (by decide)) BK134.out (by decide)) (fun k_ hk => ⟨hk.2, hk.1.2⟩))) (fun _ h_ => Or.inl h_)) (Kd.R_mono (Kd.R_tight rfl (Kd.R_mono (ok' := fun k_ => ((fun k_ => k_ ≠ gb134)) k_ ∧ some k_ ≠ (u7 : Value).ownBlock) (Kd.R_types (Kd.R_apart' (HO_15.out) (Kd.S_typed HO_7.out) (by decide)) BK134.out (by decide)) (fun k_ hk => ⟨hk.2, hk.1.2⟩))) (fun _ h_ => Or.inr (h_)))); (case aF => exact (fun k_ hk => tfB BK134 k_ hk)); (case aO => exact (tSm HO_7.out)); (case aS => exact (keep_size (w := w) (g := g) (row := none) zk)); (case aL => have := LMc46.out; omega); intro v160 w57 ho hb hg hat; rw [← Ny159.out] at ho; replace BK134 := Aside0.mk (blk_grown (tH BK134.out) hg (Kd.S_away HO_7.out (fun _ hk => hk.2.2))); replace HB := Aside0.mk (below_weaken zb HL.out hb); replace HI0 := Aside0.mk (IsS65.grown zi65 hg (IsS65.own_neS HI0.out HO_7.out (by decide))); replace HK := Aside0.mk (KeepBut.trans zk (KeepBut.of_grown hg g) (Kd.S_base2 HO_7.out)); have HO161 := Aside0.mk (ho); clear HO_7 HO_135003 HO_15; clear ho hb hg hat) | ((with_reducible refine gate_callee (f := 26) rfl ?_); refine goesL_ (some 66) rfl rfl Try.func26 (by kernel_rfl) rfl #[.pointer (some ⟨g, 0, none⟩), .int .i64 5] rfl tq ?_; (with_reducible refine (spec_l6Rd_pick.calls kj12 g s0_0 x1001_12 5 t162 t163 w0 _ ?side1 ?side2 A47.out).mono ?_); (case side1 => exact zi65); (case side2 => exact zb); rintro e w58 ⟨rfl, hi, hb, hk⟩; refine ⟨_, rfl, ?_⟩; replace BK134 := tBk BK134 hk NB134_0; replace HO161 := tSp65 HO161 HI0 hk; replace HK := tKt HK hk; replace HB := Aside0.mk (hb); replace HI0 := Aside0.mk (hi); (try clear hb); (try clear hb2); (try clear hk); (try clear hi)) | ((with_reducible refine gate_callee (f := 26) rfl ?_); refine goesL_ (some 71) rfl rfl Try.func26 (by kernel_rfl) rfl #[.pointer (some ⟨g, 0, none⟩), .int .i64 30] rfl tq ?_; (with_reducible refine (spec_l6Rd_pick.calls kj12 g s0_0 t163 30 t164 t165 w0 _ ?side1 ?side2 A48.out).mono ?_); (case side1 => exact zi65); (case side2 => exact zb); rintro e w59 ⟨rfl, hi, hb, hk⟩; refine ⟨_, rfl, ?_⟩; replace BK134 := tBk BK134 hk NB134_0; replace HO161 := tSp65 HO161 HI0 hk; replace HK := tKt HK hk; replace HB := Aside0.mk (hb); replace HI0 := Aside0.mk (hi); (try clear hb); (try clear hb2); (try clear hk); (try clear hi)))
        go_roundg kj12
        case measure => have := HK1.out; have := HJ12.out; omega
        case rel => exact ⟨(wrap64 ((wrap64 (x1_1 + 1)) + (wrap64 (Int.tdiv t162 4)))), (y159), (ji49), (wrap64 (x10_1 + 1)), (t165), tr, (by first | rfl | (simp; done) | (simp only [← hji49] <;> (first | rfl | simp)) | (simp [*]; done)), tr, H', ⟨by have := HK1.out; have := HJ12.out; omega⟩, ⟨tSm HO161.out⟩, ⟨zi65⟩, ⟨zk⟩, ⟨zb⟩⟩
       ·rw [if_neg c46] at H
        exact absurd H (by simp)
   ·rw [if_neg c10] at H
    have c10b0 : decide (x10_1 < (wrap64 (1 + t130))) = false := decide_eq_false c10
    clear c10
    simp only [Option.some.injEq, Prod.mk.injEq] at H
    obtain ⟨rfl, rfl⟩ := H
    go_wp2
    go_ret
    exact ⟨_, by first | rfl | (simp [errW_none, errW_some] <;> rfl) | (simp [*, errW_none, errW_some] <;> rfl), tS HO_7.out, zi65, zb, zk⟩

end Go.Proofs.Ythoioccmnphfgaa.G

namespace Go.Proofs.Ythoioccmnphfgaa.G
open Go.RowKit Go.Proofs.YthoioccmnphfgaaW.PrintWords Go.Proofs.YthoioccmnphfgaaW.PrintLast Go.Proofs.YthoioccmnphfgaaW.PrintMore
attribute [local go_sem] max2_int min2_int max_two min_two max_three min_three max_four min_four   -- for this text's walks alone
set_option linter.unusedVariables false
set_option linter.unusedSimpArgs false

def spec_l91Batch.j0 : Nat → List Int → Int → Bool → Bool → Int → Int → Int → List (S63) → Option (Bool × Bool × Int × Int × Int × (List (S63)) × Int)
 | 0, _, _, _, _, _, _, _, _ => none
 | k + 1, x1000, x1001, x174000, x174001, x174002, x174003, x174004, x174005 => (spec_l6Rd_pick.f k x1000 x1001 40).bind fun bt197 => (if bt197.1 = 0 then ((some (([(-1), 1, 100] : List Int) : List Int)).bind fun y199 => ((spec_l6Rd_pick.f k x1000 bt197.2 3).bind fun bt202 => (if 0 ≤ bt202.1 then (if bt202.1 < (y199.length : Int) then (some (x174000, x174001, x174002, rd y199 bt202.1, x174004, x174005, bt202.2)) else (none)) else (none)))) else (if bt197.1 = 1 then (if 0 < (x174005.length : Int) then (if x174005.length < 1759218604441 then (some (x174000, x174001, x174002, x174003, x174004, (x174005 ++ [(⟨(rd_T63 x174005 0).f0, (rd_T63 x174005 0).f1, (rd_T63 x174005 0).f2, (rd_T63 x174005 0).f3, (rd_T63 x174005 0).f4, (rd_T63 x174005 0).f5⟩ : S63)]), bt197.2)) else (none)) else (none)) else (if bt197.1 = 2 then (some (x174000, !x174001, x174002, x174003, x174004, x174005, bt197.2)) else (some (x174000, x174001, x174002, x174003, x174004, x174005, bt197.2)))))
def spec_l91Batch.f (k : Nat) (s0_0 : List Int) (s0_1 : Int) (a1 : Int) : Option (Bool × Bool × Int × Int × Int × (List (S63)) × Int) := (spec_l6Rd_pick.f k s0_0 s0_1 2).bind fun bt167 => ((spec_l91Records.f k s0_0 bt167.2 a1 4).bind fun bt169 => ((spec_l6Rd_pick.f k s0_0 bt169.2 3).bind fun bt174 => (if bt174.1 = 0 then ((spec_l6Rd_pick.f k s0_0 bt174.2 3).bind fun bt176 => ((spec_l6Rd_pick.f k s0_0 bt176.2 3).bind fun bt178 => ((spec_l6Rd_pick.f k s0_0 bt178.2 5).bind fun bt180 => ((spec_l6Rd_pick.f k s0_0 bt180.2 3).bind fun bt182 => (if bt182.1 = 0 then ((spec_l6Rd_pick.f k s0_0 bt182.2 200).bind fun bt184 => ((spec_l6Rd_pick.f k s0_0 bt184.2 2).bind fun bt189 => (spec_l91Batch.j0 k s0_0 bt189.2 (bt167.1 == 0) true bt176.1 bt178.1 bt180.1 (([(⟨a1, bt184.1, false, (([] : List Int)), true, (([bt189.1] : List Int))⟩ : S63)] : List (S63)))))) else (spec_l91Batch.j0 k s0_0 bt182.2 (bt167.1 == 0) false bt176.1 bt178.1 bt180.1 bt169.1)))))) else (spec_l91Batch.j0 k s0_0 bt174.2 (bt167.1 == 0) false 255 0 0 bt169.1))))
def spec_l91Batch.T13 : Bool × List (List Nat × List Nat) := (true, [([], []), ([0], [0]), ([], []), ([2], [2]), ([3], [3]), ([4], [4]), ([5], [5]), ([1, 6], [1, 6]), ([0, 1, 2, 3, 4, 5, 6, 7], []), ([8, 7, 7, 0, 1, 2, 3, 4, 5, 6, 7], [7, 8])])
def spec_l91Batch.B13 : List Nat := [0, 1, 0, 4, 12, 28, 60, 127, 255, 511]
theorem spec_l91Batch.tab13 : rtab .any (opsOf Try.f34 13) = spec_l91Batch.T13 := by kernel_rfl
theorem spec_l91Batch.bits13 : waitsOk spec_l91Batch.T13.2 spec_l91Batch.B13 = true := by kernel_rfl
set_option maxHeartbeats 8000000 in
set_option maxRecDepth 100000 in
theorem spec_l91Batch.calls (k : Nat) (g : Nat) (s0_0 : List Int) (s0_1 : Int) (a1 : Int) (r1 : Bool) (r2 : Bool) (r3 : Int) (r4 : Int) (r5 : Int) (r6 : List (S63)) (r7 : Int) (w0 w : World) (hI : IsS65 w0 w g s0_0 s0_1) (hB : Below w0.heap.size w0 w) (h : spec_l91Batch.f k s0_0 s0_1 a1 = some (r1, r2, r3, r4, r5, r6, r7)) :
  Calls Try.prog 34 #[.pointer (some ⟨g, 0, none⟩), .int .i64 a1] w fun e w' => ∃ v5_ : Value, e = .returned (.agg #[.bool r1, .bool r2, .int .i64 r3, .int .i64 r4, .int .i64 r5, v5_]) ∧ Kd.N k63 63 w' w.heap.size (fun k_ => (w.heap.size ≤ k_)) v5_ r6 ∧ IsS65 w0 w' g s0_0 r7 ∧ Below w0.heap.size w0 w' ∧ KeepBut w w' g none := by
 have hu46 := Try.underlying46
 have hu63 := Try.underlying63
 have HI0 := Aside0.mk hI
 have HK := Aside0.mk (KeepBut.refl w g none)
 have HL := Aside0.mk hB.size
 clear hI
 have HW0 := Aside0.mk hB.size
 have HB := Aside0.mk hB
 clear hB
 have H : ((spec_l6Rd_pick.f k s0_0 s0_1 2).bind fun bt167 => ((spec_l91Records.f k s0_0 bt167.2 a1 4).bind fun bt169 => ((spec_l6Rd_pick.f k s0_0 bt169.2 3).bind fun bt174 => (if bt174.1 = 0 then ((spec_l6Rd_pick.f k s0_0 bt174.2 3).bind fun bt176 => ((spec_l6Rd_pick.f k s0_0 bt176.2 3).bind fun bt178 => ((spec_l6Rd_pick.f k s0_0 bt178.2 5).bind fun bt180 => ((spec_l6Rd_pick.f k s0_0 bt180.2 3).bind fun bt182 => (if bt182.1 = 0 then ((spec_l6Rd_pick.f k s0_0 bt182.2 200).bind fun bt184 => ((spec_l6Rd_pick.f k s0_0 bt184.2 2).bind fun bt189 => (spec_l91Batch.j0 k s0_0 bt189.2 (bt167.1 == 0) true bt176.1 bt178.1 bt180.1 (([(⟨a1, bt184.1, false, (([] : List Int)), true, (([bt189.1] : List Int))⟩ : S63)] : List (S63)))))) else (spec_l91Batch.j0 k s0_0 bt182.2 (bt167.1 == 0) false bt176.1 bt178.1 bt180.1 bt169.1)))))) else (spec_l91Batch.j0 k s0_0 bt174.2 (bt167.1 == 0) false 255 0 0 bt169.1))))) = some (r1, r2, r3, r4, r5, r6, r7) := h
 clear h
 replace H := tbe H
 obtain ⟨⟨t167, t168⟩, A3, H⟩ := H
 dsimp only at H
 replace H := tbe H
 obtain ⟨⟨t169, t172⟩, A4, H⟩ := H
 dsimp only at H
 replace H := tbe H
 obtain ⟨⟨t174, t175⟩, A5, H⟩ := H
 dsimp only at H
 have HC6 := Aside0.mk H
 clear H
 go_enter Try.func34, Try.ntmps34
 go_upto_if 15 with (first | ((with_reducible refine gate_dst (N := 4) rfl ?_); refine box_event ?hg (N := 4) ?hd (cs := #[.bool false, .bool false, .int .i64 0, .int .i64 0, .int .i64 0, .slice none 0 0]) (t := 46) ?hr ?_; (case hd => rfl); (case hg => rfl); (case hr => first | (go_simp; done) | (go_simp; rfl)); intro gb166 hg w7 hbox hb; replace HB := tBs HB hb; have BK166 := Aside0.mk (hbox); have GW166 := Aside0.mk ((by rw [hg]; exact (keep_size (w := w) (g := g) (row := none) zk) : w.heap.size ≤ gb166)); have GE166 := Aside0.mk ((Nat.le_trans HW0.out (by rw [hg]; exact (keep_size (w := w) (g := g) (row := none) zk) : w.heap.size ≤ gb166) : w0.heap.size ≤ gb166)); replace HK := tKb HK hb; have NB0_166 := Aside0.mk ((by rw [hg]; exact Nat.ne_of_lt (IsS65.lt (show IsS65 w0 _ g s0_0 s0_1 from zi65)) : g ≠ gb166)); have NB166_0 := Aside0.mk ((by rw [hg]; exact Nat.ne_of_gt (IsS65.lt (show IsS65 w0 _ g s0_0 s0_1 from zi65)) : gb166 ≠ g)); replace HI0 := tIb65 HI0 hb; clear hb hbox hg) | ((with_reducible refine gate_callee (f := 26) rfl ?_); refine goesL_ (some 7) rfl rfl Try.func26 (by kernel_rfl) rfl #[.pointer (some ⟨g, 0, none⟩), .int .i64 2] rfl tq ?_; (with_reducible refine (spec_l6Rd_pick.calls k g s0_0 s0_1 2 t167 t168 w0 _ ?side1 ?side2 A3.out).mono ?_); (case side1 => exact zi65); (case side2 => exact zb); rintro e w8 ⟨rfl, hi, hb, hk⟩; refine ⟨_, rfl, ?_⟩; replace BK166 := tBk BK166 hk NB166_0; replace HK := tKt HK hk; replace HB := Aside0.mk (hb); replace HI0 := Aside0.mk (hi); (try clear hb); (try clear hb2); (try clear hk); (try clear hi)) | ((with_reducible refine gate_callee (f := 36) rfl ?_); refine goesL_ (some 11) rfl rfl Try.func36 (by kernel_rfl) rfl #[.pointer (some ⟨g, 0, none⟩), .int .i64 a1, .int .i64 4] rfl tq ?_; (with_reducible refine (spec_l91Records.calls k g s0_0 t168 a1 4 t169 t172 w0 _ ?side1 ?side2 A4.out).mono ?_); (case side1 => exact zi65); (case side2 => exact zb); rintro e w9 ⟨v170, rfl, ho0, hi, hb, hk⟩; have u_v170 := tsv Try.prog v170 ho0; refine ⟨_, rfl, ?_⟩; have HO171 := Aside0.mk (Kd.N_lower (Kd.N_mono (ok' := fun k_ => (w.heap.size ≤ k_) ∧ k_ ≠ gb166 ∧ k_ ≠ g) (Kd.S_N (Kd.S_bound ho0)) (fun k_ hk_ => ⟨(Nat.le_trans (keep_size (w := w) (g := g) (row := none) zk) hk_.2.1), (tfB BK166 k_ hk_.2.1), (IsS65.fresh zi65 k_ hk_.2.1)⟩)) (keep_size (w := w) (g := g) (row := none) zk)); replace BK166 := tBk BK166 hk NB166_0; replace HK := tKt HK hk; replace HB := Aside0.mk (hb); replace HI0 := Aside0.mk (hi); (try clear hb); (try clear hb2); (try clear hk); (try clear hi); (try clear ho0); obtain ⟨Ao10, co10, eo10⟩ := Kd.N_slice HO171.out; subst eo10) | ((with_reducible refine gate_dst (N := 5) rfl ?_); refine box_event ?hg (N := 5) ?hd (cs := #[.bool false, .bool false, .int .i64 0, .int .i64 0, .int .i64 0, .slice none 0 0]) (t := 46) ?hr ?_; (case hd => rfl); (case hg => rfl); (case hr => first | (go_simp; done) | (go_simp; rfl)); intro gb173 hg w11 hbox hb; replace HO171 := tNB HO171 hg hb; replace HB := tBs HB hb; have BK173 := Aside0.mk (hbox); have GW173 := Aside0.mk ((by rw [hg]; exact (keep_size (w := w) (g := g) (row := none) zk) : w.heap.size ≤ gb173)); have GE173 := Aside0.mk ((Nat.le_trans HW0.out (by rw [hg]; exact (keep_size (w := w) (g := g) (row := none) zk) : w.heap.size ≤ gb173) : w0.heap.size ≤ gb173)); replace HK := tKb HK hb; have NB166_173 := tlt BK166 hg; have NB173_166 := tgt BK166 hg; replace BK166 := tBb BK166 hb; have NB0_173 := Aside0.mk ((by rw [hg]; exact Nat.ne_of_lt (IsS65.lt (show IsS65 w0 _ g s0_0 t172 from zi65)) : g ≠ gb173)); have NB173_0 := Aside0.mk ((by rw [hg]; exact Nat.ne_of_gt (IsS65.lt (show IsS65 w0 _ g s0_0 t172 from zi65)) : gb173 ≠ g)); replace HI0 := tIb65 HI0 hb; clear hb hbox hg; have hnb12 := NB173_166.out; have hnc12 := NB166_173.out; have hnb13 := NB173_0.out; have hnc13 := NB0_173.out; obtain ⟨hcz14_0, hcz14_1, hcz14_2, hcz14_3, hcz14_4, hcz14_5, hfz14_0, hfz14_1, hfz14_2, hfz14_3, hfz14_4, hfz14_5⟩ := cells6 BK173.out) | ((with_reducible refine gate_callee (f := 26) rfl ?_); refine goesL_ (some 14) rfl rfl Try.func26 (by kernel_rfl) rfl #[.pointer (some ⟨g, 0, none⟩), .int .i64 3] rfl tq ?_; (with_reducible refine (spec_l6Rd_pick.calls k g s0_0 t172 3 t174 t175 w0 _ ?side1 ?side2 A5.out).mono ?_); (case side1 => exact zi65); (case side2 => exact zb); rintro e w15 ⟨rfl, hi, hb, hk⟩; refine ⟨_, rfl, ?_⟩; replace BK166 := tBk BK166 hk NB166_0; replace HO171 := tNk HO171 hk; replace BK173 := tBq (o' := .cells #[.bool (t167 == 0), .bool false, .int .i64 255, .int .i64 0, .int .i64 0, .slice Ao10 t169.length co10] 46 (0, 0)) BK173 hk NB173_0; replace HK := tKt HK hk; replace HB := Aside0.mk (hb); replace HI0 := Aside0.mk (hi); (try clear hb); (try clear hb2); (try clear hk); (try clear hi)))
 (try simp only [Act.put, List.setIfInBounds_toArray, List.set_cons_zero, List.set_cons_succ])
 go_cut [] (fun wc => ∃ (kq : Nat) (x1001_5 : Int) (x174001_5 : Bool) (x174002_5 : Int) (x174003_5 : Int) (x174004_5 : Int) (x174005_5 : List (S63)) (u174005 : Value), Aside0 (spec_l91Batch.j0 kq s0_0 x1001_5 (t167 == 0) x174001_5 x174002_5 x174003_5 x174004_5 x174005_5 = some (r1, r2, r3, r4, r5, r6, r7)) ∧ Aside0 (kq ≤ k) ∧ Aside0 (Kd.N k63 63 wc w.heap.size (fun k_ => (w.heap.size ≤ k_) ∧ k_ ≠ gb166 ∧ k_ ≠ gb173 ∧ k_ ≠ g) u174005 x174005_5) ∧ Aside0 (wc.heap[gb166]? = some (.cells #[.bool false, .bool false, .int .i64 0, .int .i64 0, .int .i64 0, (.slice none 0 0)] 46 (0, 0))) ∧ Aside0 (wc.heap[gb173]? = some (.cells #[.bool (t167 == 0), .bool x174001_5, .int .i64 x174002_5, .int .i64 x174003_5, .int .i64 x174004_5, u174005] 46 (0, 0))) ∧ Aside0 (IsS65 w0 wc g s0_0 x1001_5) ∧ Aside0 (KeepBut w wc g none) ∧ Aside0 (Below w0.heap.size w0 wc))
 case first =>
  have H := HC6.out
  clear HC6
  by_cases c16 : t174 = 0
  ·rw [if_pos c16] at H
   have c16b0 : (t174 == 0) = true := beq_iff_eq.mpr c16
   have c16b1 : (t174 != 0) = false := bne_eq_false_iff_eq.mpr c16
   clear c16
   (first | rw [c16b0] | (simp only [i64_w, i32_w]; rw [c16b0]) | skip)
   replace H := tbe H
   obtain ⟨⟨t176, t177⟩, A17, H⟩ := H
   dsimp only at H
   replace H := tbe H
   obtain ⟨⟨t178, t179⟩, A18, H⟩ := H
   dsimp only at H
   replace H := tbe H
   obtain ⟨⟨t180, t181⟩, A19, H⟩ := H
   dsimp only at H
   replace H := tbe H
   obtain ⟨⟨t182, t183⟩, A20, H⟩ := H
   dsimp only at H
   by_cases c21 : t182 = 0
   ·rw [if_pos c21] at H
    have c21b0 : (t182 == 0) = true := beq_iff_eq.mpr c21
    have c21b1 : (t182 != 0) = false := bne_eq_false_iff_eq.mpr c21
    clear c21
    replace H := tbe H
    obtain ⟨⟨t184, t185⟩, A22, H⟩ := H
    dsimp only at H
    obtain ⟨y186, hy186⟩ : ∃ y_ : List Int, y_ = (([] : List Int)) := ⟨_, rfl⟩
    replace H : ((spec_l6Rd_pick.f k s0_0 t185 2).bind fun bt189 => (spec_l91Batch.j0 k s0_0 bt189.2 (t167 == 0) true t176 t178 t180 (([(⟨a1, t184, false, y186, true, (([bt189.1] : List Int))⟩ : S63)] : List (S63))))) = some (r1, r2, r3, r4, r5, r6, r7) := by first | (rw [hy186]; with_reducible exact H) | (have H2_ := (Option.bind_some _ _).symm.trans H; rw [hy186]; with_reducible exact H2_) | (have H2_ := (Option.bind_some _ _).symm.trans H; with_reducible exact H2_) | with_reducible exact H | (rw [hy186]; exact H) | exact H
    have Ny186 := Aside0.mk hy186
    clear hy186
    replace H := tbe H
    obtain ⟨⟨t189, t190⟩, A23, H⟩ := H
    dsimp only at H
    obtain ⟨y191, hy191⟩ : ∃ y_ : List Int, y_ = (([t189] : List Int)) := ⟨_, rfl⟩
    replace H : (spec_l91Batch.j0 k s0_0 t190 (t167 == 0) true t176 t178 t180 (([(⟨a1, t184, false, y186, true, y191⟩ : S63)] : List (S63)))) = some (r1, r2, r3, r4, r5, r6, r7) := by first | (rw [hy191]; with_reducible exact H) | (have H2_ := (Option.bind_some _ _).symm.trans H; rw [hy191]; with_reducible exact H2_) | (have H2_ := (Option.bind_some _ _).symm.trans H; with_reducible exact H2_) | with_reducible exact H | (rw [hy191]; exact H) | exact H
    have Ny191 := Aside0.mk hy191
    clear hy191
    obtain ⟨y194, hy194⟩ : ∃ y_ : List (S63), y_ = (([(⟨a1, t184, false, y186, true, y191⟩ : S63)] : List (S63))) := ⟨_, rfl⟩
    replace H : (spec_l91Batch.j0 k s0_0 t190 (t167 == 0) true t176 t178 t180 y194) = some (r1, r2, r3, r4, r5, r6, r7) := by first | (rw [hy194]; with_reducible exact H) | (have H2_ := (Option.bind_some _ _).symm.trans H; rw [hy194]; with_reducible exact H2_) | (have H2_ := (Option.bind_some _ _).symm.trans H; with_reducible exact H2_) | with_reducible exact H | (rw [hy194]; exact H) | exact H
    have Ny194 := Aside0.mk hy194
    clear hy194
    have H' := Aside0.mk H
    clear H
    go_wp2_with (first | ((with_reducible refine gate_callee (f := 26) rfl ?_); refine goesL_ (some 17) rfl rfl Try.func26 (by kernel_rfl) rfl #[.pointer (some ⟨g, 0, none⟩), .int .i64 3] rfl tq ?_; (with_reducible refine (spec_l6Rd_pick.calls k g s0_0 t175 3 t176 t177 w0 _ ?side1 ?side2 A17.out).mono ?_); (case side1 => exact zi65); (case side2 => exact zb); rintro e w24 ⟨rfl, hi, hb, hk⟩; refine ⟨_, rfl, ?_⟩; replace BK166 := tBk BK166 hk NB166_0; replace HO171 := tNk HO171 hk; replace BK173 := tBk BK173 hk NB173_0; replace HK := tKt HK hk; replace HB := Aside0.mk (hb); replace HI0 := Aside0.mk (hi); (try clear hb); (try clear hb2); (try clear hk); (try clear hi); have hnb25 := NB173_166.out; have hnc25 := NB166_173.out; have hnb26 := NB173_0.out; have hnc26 := NB0_173.out; obtain ⟨hcz27_0, hcz27_1, hcz27_2, hcz27_3, hcz27_4, hcz27_5, hfz27_0, hfz27_1, hfz27_2, hfz27_3, hfz27_4, hfz27_5⟩ := cells6 BK173.out) | ((with_reducible refine gate_callee (f := 26) rfl ?_); refine goesL_ (some 20) rfl rfl Try.func26 (by kernel_rfl) rfl #[.pointer (some ⟨g, 0, none⟩), .int .i64 3] rfl tq ?_; (with_reducible refine (spec_l6Rd_pick.calls k g s0_0 t177 3 t178 t179 w0 _ ?side1 ?side2 A18.out).mono ?_); (case side1 => exact zi65); (case side2 => exact zb); rintro e w28 ⟨rfl, hi, hb, hk⟩; refine ⟨_, rfl, ?_⟩; replace BK166 := tBk BK166 hk NB166_0; replace HO171 := tNk HO171 hk; replace BK173 := tBq (o' := .cells #[.bool (t167 == 0), .bool false, .int .i64 t176, .int .i64 0, .int .i64 0, .slice Ao10 t169.length co10] 46 (0, 0)) BK173 hk NB173_0; replace HK := tKt HK hk; replace HB := Aside0.mk (hb); replace HI0 := Aside0.mk (hi); (try clear hb); (try clear hb2); (try clear hk); (try clear hi); obtain ⟨hcz29_0, hcz29_1, hcz29_2, hcz29_3, hcz29_4, hcz29_5, hfz29_0, hfz29_1, hfz29_2, hfz29_3, hfz29_4, hfz29_5⟩ := cells6 BK173.out) | ((with_reducible refine gate_callee (f := 26) rfl ?_); refine goesL_ (some 23) rfl rfl Try.func26 (by kernel_rfl) rfl #[.pointer (some ⟨g, 0, none⟩), .int .i64 5] rfl tq ?_; (with_reducible refine (spec_l6Rd_pick.calls k g s0_0 t179 5 t180 t181 w0 _ ?side1 ?side2 A19.out).mono ?_); (case side1 => exact zi65); (case side2 => exact zb); rintro e w30 ⟨rfl, hi, hb, hk⟩; refine ⟨_, rfl, ?_⟩; replace BK166 := tBk BK166 hk NB166_0; replace HO171 := tNk HO171 hk; replace BK173 := tBq (o' := .cells #[.bool (t167 == 0), .bool false, .int .i64 t176, .int .i64 t178, .int .i64 0, .slice Ao10 t169.length co10] 46 (0, 0)) BK173 hk NB173_0; replace HK := tKt HK hk; replace HB := Aside0.mk (hb); replace HI0 := Aside0.mk (hi); (try clear hb); (try clear hb2); (try clear hk); (try clear hi); obtain ⟨hcz31_0, hcz31_1, hcz31_2, hcz31_3, hcz31_4, hcz31_5, hfz31_0, hfz31_1, hfz31_2, hfz31_3, hfz31_4, hfz31_5⟩ := cells6 BK173.out) | ((with_reducible refine gate_callee (f := 26) rfl ?_); refine goesL_ (some 26) rfl rfl Try.func26 (by kernel_rfl) rfl #[.pointer (some ⟨g, 0, none⟩), .int .i64 3] rfl tq ?_; (with_reducible refine (spec_l6Rd_pick.calls k g s0_0 t181 3 t182 t183 w0 _ ?side1 ?side2 A20.out).mono ?_); (case side1 => exact zi65); (case side2 => exact zb); rintro e w32 ⟨rfl, hi, hb, hk⟩; refine ⟨_, rfl, ?_⟩; replace BK166 := tBk BK166 hk NB166_0; replace HO171 := tNk HO171 hk; replace BK173 := tBq (o' := .cells #[.bool (t167 == 0), .bool false, .int .i64 t176, .int .i64 t178, .int .i64 t180, .slice Ao10 t169.length co10] 46 (0, 0)) BK173 hk NB173_0; replace HK := tKt HK hk; replace HB := Aside0.mk (hb); replace HI0 := Aside0.mk (hi); (try clear hb); (try clear hb2); (try clear hk); (try clear hi); obtain ⟨hcz33_0, hcz33_1, hcz33_2, hcz33_3, hcz33_4, hcz33_5, hfz33_0, hfz33_1, hfz33_2, hfz33_3, hfz33_4, hfz33_5⟩ := cells6 BK173.out) | ((with_reducible refine gate_callee (f := 26) rfl ?_); refine goesL_ (some 31) rfl rfl Try.func26 (by kernel_rfl) rfl #[.pointer (some ⟨g, 0, none⟩), .int .i64 200] rfl tq ?_; (with_reducible refine (spec_l6Rd_pick.calls k g s0_0 t183 200 t184 t185 w0 _ ?side1 ?side2 A22.out).mono ?_); (case side1 => exact zi65); (case side2 => exact zb); rintro e w34 ⟨rfl, hi, hb, hk⟩; refine ⟨_, rfl, ?_⟩; replace BK166 := tBk BK166 hk NB166_0; replace HO171 := tNk HO171 hk; replace BK173 := tBq (o' := .cells #[.bool (t167 == 0), .bool true, .int .i64 t176, .int .i64 t178, .int .i64 t180, .slice Ao10 t169.length co10] 46 (0, 0)) BK173 hk NB173_0; replace HK := tKt HK hk; replace HB := Aside0.mk (hb); replace HI0 := Aside0.mk (hi); (try clear hb); (try clear hb2); (try clear hk); (try clear hi)) | ((with_reducible refine gate_dst (N := 32) rfl ?_); refine Kd.R_lit (Kd.int .i64) _ 3 ?hg (N := 32) ?hd (xs := ([] : List Int)) (inner := []) (ok := fun _ => True) (okp := fun _ => True) ?hr ?hp (fun _ hk => hk) trivial (Below.refl _ _) (Nat.le_refl _) (by simp) ?_; (case hd => rfl); (case hg => rfl); (case hr => first | (go_simp; done) | (go_simp; rfl)); (case hp => exact (Reps.none _ _)); intro v187 w35 ho36 hb hg_ hnew_; clear hg_ hnew_; (first | rw [← Ny186.out] at ho36 | (simp only [Int.reduceToNat] at ho36; rw [← Ny186.out] at ho36)); replace HO171 := Aside0.mk (Kd.N_elder' (tN HO171.out) (Kd.R_base ho36) hb); have HO188 := Aside0.mk (Kd.R_lower (Kd.R_newM (M := fun k_ => (w.heap.size ≤ k_)) ho36 (keep_size (w := w) (g := g) (row := none) zk) (fun k_ h_ => h_)) (keep_size (w := w) (g := g) (row := none) zk)); replace HI0 := tIb65 HI0 hb; replace BK166 := tBb BK166 hb; replace BK173 := tBb BK173 hb; replace HK := tKb HK hb; replace HB := tBs HB hb; clear hb ho36) | ((with_reducible refine gate_callee (f := 26) rfl ?_); refine goesL_ (some 34) rfl rfl Try.func26 (by kernel_rfl) rfl #[.pointer (some ⟨g, 0, none⟩), .int .i64 2] rfl tq ?_; (with_reducible refine (spec_l6Rd_pick.calls k g s0_0 t185 2 t189 t190 w0 _ ?side1 ?side2 A23.out).mono ?_); (case side1 => exact zi65); (case side2 => exact zb); rintro e w37 ⟨rfl, hi, hb, hk⟩; refine ⟨_, rfl, ?_⟩; replace BK166 := tBk BK166 hk NB166_0; replace HO171 := tNk HO171 hk; replace BK173 := tBk BK173 hk NB173_0; replace HO188 := tRp65 HO188 HI0 hk; replace HK := tKt HK hk; replace HB := Aside0.mk (hb); replace HI0 := Aside0.mk (hi); (try clear hb); (try clear hb2); (try clear hk); (try clear hi)) | ((with_reducible refine gate_dst (N := 35) rfl ?_); refine Kd.R_lit (Kd.int .i64) _ 3 ?hg (N := 35) ?hd (xs := ([t189] : List Int)) (inner := [.int .i64 t189]) (ok := fun _ => True) (okp := fun _ => True) ?hr ?hp (fun _ hk => hk) trivial (Below.refl _ _) (Nat.le_refl _) (by simp) ?_; (case hd => rfl); (case hg => rfl); (case hr => first | (go_simp; done) | (go_simp; rfl)); (case hp => exact (Reps.one (show Kd.M (Kd.int .i64) _ _ _ t189 [.int .i64 t189] from rfl) (Reps.none _ _))); intro v192 w38 ho39 hb hg_ hnew_; clear hg_ hnew_; (first | rw [← Ny191.out] at ho39 | (simp only [Int.reduceToNat] at ho39; rw [← Ny191.out] at ho39)); replace HO171 := Aside0.mk (Kd.N_elder' (tN HO171.out) (Kd.R_base ho39) hb); have HO193 := Aside0.mk (Kd.R_lower (Kd.R_new' (Kd.R_newM (M := fun k_ => (w.heap.size ≤ k_)) ho39 (keep_size (w := w) (g := g) (row := none) zk) (fun k_ h_ => h_)) (Kd.R_lt (tR HO188.out))) (keep_size (w := w) (g := g) (row := none) zk)); replace HO188 := Aside0.mk (Kd.R_elder' (tR HO188.out) (Kd.R_base ho39) hb); replace HI0 := tIb65 HI0 hb; replace BK166 := tBb BK166 hb; replace BK173 := tBb BK173 hb; replace HK := tKb HK hb; replace HB := tBs HB hb; clear hb ho39; obtain ⟨Ao40, co40, eo40⟩ := Kd.R_slice HO193.out; subst eo40; obtain ⟨Ao41, co41, eo41⟩ := Kd.R_slice HO188.out; subst eo41) | ((with_reducible refine gate_dst (N := 37) rfl ?_); refine Kd.N_lit k63 _ 63 ?hg (N' := 37) ?hd (xs := ([(⟨a1, t184, false, y186, true, y191⟩ : S63)] : List (S63))) (inner := [.int .i64 a1, .int .i64 t184, .bool false, .slice Ao41 y186.length co41, .bool true, .slice Ao40 y191.length co40]) (ok := (fun k_ => (w.heap.size ≤ k_) ∧ some k_ ≠ (.slice Ao10 t169.length co10 : Value).ownBlock ∧ k_ ≠ gb166 ∧ k_ ≠ gb173 ∧ k_ ≠ g)) (okp := (fun k_ => (w.heap.size ≤ k_) ∧ some k_ ≠ (.slice Ao10 t169.length co10 : Value).ownBlock ∧ k_ ≠ gb166 ∧ k_ ≠ gb173 ∧ k_ ≠ g)) ?hr ?hp (fun _ hk => hk) ((show ∀ k_, w38.heap.size ≤ k_ → (fun k_ => (w.heap.size ≤ k_) ∧ some k_ ≠ (.slice Ao10 t169.length co10 : Value).ownBlock ∧ k_ ≠ gb166 ∧ k_ ≠ gb173 ∧ k_ ≠ g) k_ from fun k_ hk => ⟨(Nat.le_trans (keep_size (w := w) (g := g) (row := none) zk) hk), tfr HO171 k_ hk, tfB BK166 k_ hk, tfB BK173 k_ hk, IsS65.fresh zi65 k_ hk⟩) _ (Nat.le_refl _)) (Below.refl _ _) (Nat.le_refl _) (by simp) ?_; (case hd => rfl); (case hg => rfl); (case hr => first | (go_simp; done) | (go_simp; rfl)); (case hp => exact (Reps.c6 (show Kd.FK k63 _ _ (⟨a1, t184, false, y186, true, y191⟩ : S63) [.int .i64 a1, .int .i64 t184, .bool false, .slice Ao41 y186.length co41, .bool true, .slice Ao40 y191.length co40] from (k63_mkF _ _ (⟨a1, t184, false, y186, true, y191⟩ : S63) (Kd.R_reads' (Kd.R_mono (ok' := (fun k_ => (w.heap.size ≤ k_) ∧ some k_ ≠ (.slice Ao10 t169.length co10 : Value).ownBlock ∧ k_ ≠ gb166 ∧ k_ ≠ gb173 ∧ k_ ≠ g)) (IsS65.apart HI0.out (Kd.R_types (Kd.R_types (Kd.R_apart' (HO188.out) (Kd.N_typed HO171.out) (by decide)) BK166.out (by decide)) BK173.out (by decide)) (by decide)) (fun k_ hk => ⟨hk.1.1.1.1.1.1, ⟨hk.1.1.1.2, ⟨hk.1.1.2, ⟨hk.1.2, hk.2⟩⟩⟩⟩))).2.1 (Kd.R_F (Kd.R_mono (ok' := (fun k_ => (w.heap.size ≤ k_) ∧ some k_ ≠ (.slice Ao10 t169.length co10 : Value).ownBlock ∧ k_ ≠ gb166 ∧ k_ ≠ gb173 ∧ k_ ≠ g)) (IsS65.apart HI0.out (Kd.R_types (Kd.R_types (Kd.R_apart' (HO188.out) (Kd.N_typed HO171.out) (by decide)) BK166.out (by decide)) BK173.out (by decide)) (by decide)) (fun k_ hk => ⟨hk.1.1.1.1.1.1, ⟨hk.1.1.1.2, ⟨hk.1.1.2, ⟨hk.1.2, hk.2⟩⟩⟩⟩))) (Kd.R_reads' (Kd.R_mono (ok' := (fun k_ => (w.heap.size ≤ k_) ∧ some k_ ≠ (.slice Ao10 t169.length co10 : Value).ownBlock ∧ k_ ≠ gb166 ∧ k_ ≠ gb173 ∧ k_ ≠ g)) (IsS65.apart HI0.out (Kd.R_types (Kd.R_types (Kd.R_apart' (HO193.out) (Kd.N_typed HO171.out) (by decide)) BK166.out (by decide)) BK173.out (by decide)) (by decide)) (fun k_ hk => ⟨hk.1.1.1.1.1.1, ⟨hk.1.1.1.2, ⟨hk.1.1.2, ⟨hk.1.2, hk.2⟩⟩⟩⟩))).2.1 (Kd.R_F (Kd.R_mono (ok' := (fun k_ => (w.heap.size ≤ k_) ∧ some k_ ≠ (.slice Ao10 t169.length co10 : Value).ownBlock ∧ k_ ≠ gb166 ∧ k_ ≠ gb173 ∧ k_ ≠ g)) (IsS65.apart HI0.out (Kd.R_types (Kd.R_types (Kd.R_apart' (HO193.out) (Kd.N_typed HO171.out) (by decide)) BK166.out (by decide)) BK173.out (by decide)) (by decide)) (fun k_ hk => ⟨hk.1.1.1.1.1.1, ⟨hk.1.1.1.2, ⟨hk.1.1.2, ⟨hk.1.2, hk.2⟩⟩⟩⟩))))) (Reps.none _ _))); intro v195 w42 ho43 hb hg_ hnew_; clear hg_ hnew_; (first | rw [← Ny194.out] at ho43 | (simp only [Int.reduceToNat] at ho43; rw [← Ny194.out] at ho43)); replace HO171 := tNe HO171 ho43 hb; have HO196 := Aside0.mk (Kd.N_lower ho43 (keep_size (w := w) (g := g) (row := none) zk)); replace HI0 := tIb65 HI0 hb; replace BK166 := tBb BK166 hb; replace BK173 := tBb BK173 hb; replace HK := tKb HK hb; replace HB := tBs HB hb; clear HO188 HO193; clear hb ho43; obtain ⟨Ao44, co44, eo44⟩ := Kd.N_slice HO196.out; subst eo44; obtain ⟨hcz45_0, hcz45_1, hcz45_2, hcz45_3, hcz45_4, hcz45_5, hfz45_0, hfz45_1, hfz45_2, hfz45_3, hfz45_4, hfz45_5⟩ := cells6 BK173.out))
    go_meet
    case rel => exact ⟨_, (t190), (true), (t176), (t178), (t180), (y194), (.slice Ao44 y194.length co44), H', ⟨by first | omega | exact Nat.le_refl _⟩, ⟨tNm HO196.out⟩, ⟨tH BK166.out⟩, ⟨tP BK173.out⟩, ⟨zi65⟩, ⟨zk⟩, ⟨zb⟩⟩
   ·rw [if_neg c21] at H
    have c21b0 : (t182 == 0) = false := beq_eq_false_iff_ne.mpr c21
    have c21b1 : (t182 != 0) = true := bne_iff_ne.mpr c21
    have H' := Aside0.mk H
    clear H
    go_wp2_with (first | ((with_reducible refine gate_callee (f := 26) rfl ?_); refine goesL_ (some 17) rfl rfl Try.func26 (by kernel_rfl) rfl #[.pointer (some ⟨g, 0, none⟩), .int .i64 3] rfl tq ?_; (with_reducible refine (spec_l6Rd_pick.calls k g s0_0 t175 3 t176 t177 w0 _ ?side1 ?side2 A17.out).mono ?_); (case side1 => exact zi65); (case side2 => exact zb); rintro e w46 ⟨rfl, hi, hb, hk⟩; refine ⟨_, rfl, ?_⟩; replace BK166 := tBk BK166 hk NB166_0; replace HO171 := tNk HO171 hk; replace BK173 := tBk BK173 hk NB173_0; replace HK := tKt HK hk; replace HB := Aside0.mk (hb); replace HI0 := Aside0.mk (hi); (try clear hb); (try clear hb2); (try clear hk); (try clear hi); have hnb47 := NB173_166.out; have hnc47 := NB166_173.out; have hnb48 := NB173_0.out; have hnc48 := NB0_173.out; obtain ⟨hcz49_0, hcz49_1, hcz49_2, hcz49_3, hcz49_4, hcz49_5, hfz49_0, hfz49_1, hfz49_2, hfz49_3, hfz49_4, hfz49_5⟩ := cells6 BK173.out) | ((with_reducible refine gate_callee (f := 26) rfl ?_); refine goesL_ (some 20) rfl rfl Try.func26 (by kernel_rfl) rfl #[.pointer (some ⟨g, 0, none⟩), .int .i64 3] rfl tq ?_; (with_reducible refine (spec_l6Rd_pick.calls k g s0_0 t177 3 t178 t179 w0 _ ?side1 ?side2 A18.out).mono ?_); (case side1 => exact zi65); (case side2 => exact zb); rintro e w50 ⟨rfl, hi, hb, hk⟩; refine ⟨_, rfl, ?_⟩; replace BK166 := tBk BK166 hk NB166_0; replace HO171 := tNk HO171 hk; replace BK173 := tBq (o' := .cells #[.bool (t167 == 0), .bool false, .int .i64 t176, .int .i64 0, .int .i64 0, .slice Ao10 t169.length co10] 46 (0, 0)) BK173 hk NB173_0; replace HK := tKt HK hk; replace HB := Aside0.mk (hb); replace HI0 := Aside0.mk (hi); (try clear hb); (try clear hb2); (try clear hk); (try clear hi); obtain ⟨hcz51_0, hcz51_1, hcz51_2, hcz51_3, hcz51_4, hcz51_5, hfz51_0, hfz51_1, hfz51_2, hfz51_3, hfz51_4, hfz51_5⟩ := cells6 BK173.out) | ((with_reducible refine gate_callee (f := 26) rfl ?_); refine goesL_ (some 23) rfl rfl Try.func26 (by kernel_rfl) rfl #[.pointer (some ⟨g, 0, none⟩), .int .i64 5] rfl tq ?_; (with_reducible refine (spec_l6Rd_pick.calls k g s0_0 t179 5 t180 t181 w0 _ ?side1 ?side2 A19.out).mono ?_); (case side1 => exact zi65); (case side2 => exact zb); rintro e w52 ⟨rfl, hi, hb, hk⟩; refine ⟨_, rfl, ?_⟩; replace BK166 := tBk BK166 hk NB166_0; replace HO171 := tNk HO171 hk; replace BK173 := tBq (o' := .cells #[.bool (t167 == 0), .bool false, .int .i64 t176, .int .i64 t178, .int .i64 0, .slice Ao10 t169.length co10] 46 (0, 0)) BK173 hk NB173_0; replace HK := tKt HK hk; replace HB := Aside0.mk (hb); replace HI0 := Aside0.mk (hi); (try clear hb); (try clear hb2); (try clear hk); (try clear hi); obtain ⟨hcz53_0, hcz53_1, hcz53_2, hcz53_3, hcz53_4, hcz53_5, hfz53_0, hfz53_1, hfz53_2, hfz53_3, hfz53_4, hfz53_5⟩ := cells6 BK173.out) | ((with_reducible refine gate_callee (f := 26) rfl ?_); refine goesL_ (some 26) rfl rfl Try.func26 (by kernel_rfl) rfl #[.pointer (some ⟨g, 0, none⟩), .int .i64 3] rfl tq ?_; (with_reducible refine (spec_l6Rd_pick.calls k g s0_0 t181 3 t182 t183 w0 _ ?side1 ?side2 A20.out).mono ?_); (case side1 => exact zi65); (case side2 => exact zb); rintro e w54 ⟨rfl, hi, hb, hk⟩; refine ⟨_, rfl, ?_⟩; replace BK166 := tBk BK166 hk NB166_0; replace HO171 := tNk HO171 hk; replace BK173 := tBq (o' := .cells #[.bool (t167 == 0), .bool false, .int .i64 t176, .int .i64 t178, .int .i64 t180, .slice Ao10 t169.length co10] 46 (0, 0)) BK173 hk NB173_0; replace HK := tKt HK hk; replace HB := Aside0.mk (hb); replace HI0 := Aside0.mk (hi); (try clear hb); (try clear hb2); (try clear hk); (try clear hi)))
    go_meet
    case rel => exact ⟨_, (t183), (false), (t176), (t178), (t180), (t169), (.slice Ao10 t169.length co10), H', ⟨by first | omega | exact Nat.le_refl _⟩, ⟨tNm HO171.out⟩, ⟨tH BK166.out⟩, ⟨tH BK173.out⟩, ⟨zi65⟩, ⟨zk⟩, ⟨zb⟩⟩
  ·rw [if_neg c16] at H
   have c16b0 : (t174 == 0) = false := beq_eq_false_iff_ne.mpr c16
   have c16b1 : (t174 != 0) = true := bne_iff_ne.mpr c16
   (first | rw [c16b0] | (simp only [i64_w, i32_w]; rw [c16b0]) | skip)
   have H' := Aside0.mk H
   clear H
   go_wp2
   go_meet
   case rel => exact ⟨_, (t175), (false), (255), (0), (0), (t169), (.slice Ao10 t169.length co10), H', ⟨by first | omega | exact Nat.le_refl _⟩, ⟨tNm HO171.out⟩, ⟨tH BK166.out⟩, ⟨tH BK173.out⟩, ⟨zi65⟩, ⟨zk⟩, ⟨zb⟩⟩
 case rest =>
  clear HC6
  try clear hcz14_0; try clear hcz14_1; try clear hcz14_2; try clear hcz14_3; try clear hcz14_4; try clear hcz14_5; try clear hfz14_0; try clear hfz14_1; try clear hfz14_2; try clear hfz14_3; try clear hfz14_4; try clear hfz14_5
  obtain ⟨kq, x1001_5, x174001_5, x174002_5, x174003_5, x174004_5, x174005_5, u174005, HA, HJ5, HO_174005, BK166, BK173, HI0, HK, HB⟩ := hcut
  cases kq with
  | zero => exact absurd HA.out (by simp [spec_l91Batch.j0])
  | succ kj5 =>
   have H := HA.out
   clear HA
   simp only [spec_l91Batch.j0] at H
   replace H := tbe H
   obtain ⟨⟨t197, t198⟩, A55, H⟩ := H
   dsimp only at H
   by_cases c56 : t197 = 0
   ·rw [if_pos c56] at H
    have c56b0 : (t197 == 0) = true := beq_iff_eq.mpr c56
    have c56b1 : (t197 != 0) = false := bne_eq_false_iff_eq.mpr c56
    clear c56
    obtain ⟨y199, hy199⟩ : ∃ y_ : List Int, y_ = (([(-1), 1, 100] : List Int)) := ⟨_, rfl⟩
    replace H : ((spec_l6Rd_pick.f kj5 s0_0 t198 3).bind fun bt202 => (if 0 ≤ bt202.1 then (if bt202.1 < (y199.length : Int) then (some ((t167 == 0), x174001_5, x174002_5, rd y199 bt202.1, x174004_5, x174005_5, bt202.2)) else (none)) else (none))) = some (r1, r2, r3, r4, r5, r6, r7) := by first | (rw [hy199]; with_reducible exact H) | (have H2_ := (Option.bind_some _ _).symm.trans H; rw [hy199]; with_reducible exact H2_) | (have H2_ := (Option.bind_some _ _).symm.trans H; with_reducible exact H2_) | with_reducible exact H | (rw [hy199]; exact H) | exact H
    have Ny199 := Aside0.mk hy199
    clear hy199
    replace H := tbe H
    obtain ⟨⟨t202, t203⟩, A57, H⟩ := H
    dsimp only at H
    by_cases c58 : 0 ≤ t202
    ·rw [if_pos c58] at H
     have c58b0 : decide (0 ≤ t202) = true := decide_eq_true c58
     clear c58
     by_cases c59 : t202 < (y199.length : Int)
     ·rw [if_pos c59] at H
      have c59b0 : decide (t202 < (y199.length : Int)) = true := decide_eq_true c59
      clear c59
      simp only [Option.some.injEq, Prod.mk.injEq] at H
      obtain ⟨rfl, rfl, rfl, rfl, rfl, rfl, rfl⟩ := H
      go_wp2_with (first | ((with_reducible refine gate_callee (f := 26) rfl ?_); refine goesL_ (some 40) rfl rfl Try.func26 (by kernel_rfl) rfl #[.pointer (some ⟨g, 0, none⟩), .int .i64 40] rfl tq ?_; (with_reducible refine (spec_l6Rd_pick.calls kj5 g s0_0 x1001_5 40 t197 t198 w0 _ ?side1 ?side2 A55.out).mono ?_); (case side1 => exact zi65); (case side2 => exact zb); rintro e w60 ⟨rfl, hi, hb, hk⟩; refine ⟨_, rfl, ?_⟩; replace HO_174005 := tNk HO_174005 hk; replace BK166 := tBk BK166 hk NB166_0; replace BK173 := tBk BK173 hk NB173_0; replace HK := tKt HK hk; replace HB := Aside0.mk (hb); replace HI0 := Aside0.mk (hi); (try clear hb); (try clear hb2); (try clear hk); (try clear hi)) | ((with_reducible refine gate_dst (N := 43) rfl ?_); refine Kd.R_lit (Kd.int .i64) _ 3 ?hg (N := 43) ?hd (xs := ([(-1), 1, 100] : List Int)) (inner := [.int .i64 (-1), .int .i64 1, .int .i64 100]) (ok := fun _ => True) (okp := fun _ => True) ?hr ?hp (fun _ hk => hk) trivial (Below.refl _ _) (Nat.le_refl _) (by simp) ?_; (case hd => rfl); (case hg => rfl); (case hr => first | (go_simp; done) | (go_simp; rfl)); (case hp => exact (Reps.one (show Kd.M (Kd.int .i64) _ _ _ (-1) [.int .i64 (-1)] from rfl) (Reps.one (show Kd.M (Kd.int .i64) _ _ _ 1 [.int .i64 1] from rfl) (Reps.one (show Kd.M (Kd.int .i64) _ _ _ 100 [.int .i64 100] from rfl) (Reps.none _ _))))); intro v200 w61 ho62 hb hg_ hnew_; clear hg_ hnew_; (first | rw [← Ny199.out] at ho62 | (simp only [Int.reduceToNat] at ho62; rw [← Ny199.out] at ho62)); replace HO_174005 := Aside0.mk (Kd.N_elder' (tN HO_174005.out) (Kd.R_base ho62) hb); have HO201 := Aside0.mk (Kd.R_lower (Kd.R_newM (M := fun k_ => (w.heap.size ≤ k_)) ho62 (keep_size (w := w) (g := g) (row := none) zk) (fun k_ h_ => h_)) (keep_size (w := w) (g := g) (row := none) zk)); replace BK166 := tBb BK166 hb; replace BK173 := tBb BK173 hb; replace HI0 := tIb65 HI0 hb; replace HK := tKb HK hb; replace HB := tBs HB hb; clear hb ho62) | ((with_reducible refine gate_callee (f := 26) rfl ?_); refine goesL_ (some 45) rfl rfl Try.func26 (by kernel_rfl) rfl #[.pointer (some ⟨g, 0, none⟩), .int .i64 3] rfl tq ?_; (with_reducible refine (spec_l6Rd_pick.calls kj5 g s0_0 t198 3 t202 t203 w0 _ ?side1 ?side2 A57.out).mono ?_); (case side1 => exact zi65); (case side2 => exact zb); rintro e w63 ⟨rfl, hi, hb, hk⟩; refine ⟨_, rfl, ?_⟩; replace HO_174005 := tNk HO_174005 hk; replace BK166 := tBk BK166 hk NB166_0; replace BK173 := tBk BK173 hk NB173_0; replace HO201 := tRp65 HO201 HI0 hk; replace HK := tKt HK hk; replace HB := Aside0.mk (hb); replace HI0 := Aside0.mk (hi); (try clear hb); (try clear hb2); (try clear hk); (try clear hi); obtain ⟨Ao64, co64, eo64⟩ := Kd.R_slice HO201.out; subst eo64; have p204 : 0 ≤ (t202 : Int) := td; have q204 : t202 < (y199.length : Int) := td; obtain ⟨ad204, e204, hx204_0⟩ := Kd.at_int (Kd.R_reads' HO201.out).2.2 t202 p204 q204; cases e204; replace p204 := eq_true p204; replace q204 := eq_true q204; have hnb65 := NB173_166.out; have hnc65 := NB166_173.out; have hnb66 := NB173_0.out; have hnc66 := NB0_173.out; obtain ⟨hcz67_0, hcz67_1, hcz67_2, hcz67_3, hcz67_4, hcz67_5, hfz67_0, hfz67_1, hfz67_2, hfz67_3, hfz67_4, hfz67_5⟩ := cells6 BK173.out; have hnb68 := NB166_0.out; have hnc68 := NB0_166.out; obtain ⟨hcz69_0, hcz69_1, hcz69_2, hcz69_3, hcz69_4, hcz69_5, hfz69_0, hfz69_1, hfz69_2, hfz69_3, hfz69_4, hfz69_5⟩ := cells6 BK166.out; obtain ⟨Ao70, co70, eo70⟩ := Kd.N_slice HO_174005.out; subst eo70))
      refine bodyPost_ret (results_cell_row rfl _ _ gb166 46 #[.bool (t167 == 0), .bool x174001_5, .int .i64 x174002_5, .int .i64 (rd y199 t202), .int .i64 x174004_5, .slice Ao70 x174005_5.length co70] (0, 0) _ rfl (tP BK166.out) Try.underlying46 rfl (by kernel_rfl)) rfl ?_
      exact ⟨_, by first | rfl | (simp [errW_none, errW_some] <;> rfl) | (simp [*, errW_none, errW_some] <;> rfl), by (with_reducible repeat (first | apply Kd.N_alloc | apply Kd.N_drewN | apply Kd.N_drew)); exact Kd.N_mono (Kd.N_far (p := ⟨gb166, 5, none⟩) (Kd.N_far (p := ⟨gb166, 4, none⟩) (Kd.N_far (p := ⟨gb166, 3, none⟩) (Kd.N_far (p := ⟨gb166, 2, none⟩) (Kd.N_far (p := ⟨gb166, 1, none⟩) (Kd.N_far (p := ⟨gb166, 0, none⟩) (Kd.N_far (p := ⟨gb173, 3, none⟩) (Kd.N_mono (Kd.N_mono HO_174005.out (fun k_ hk => (⟨hk, hk.1.2.2.1⟩ : _ ∧ k_ ≠ gb173))) (fun k_ hk => (⟨hk, hk.1.1.2.1⟩ : _ ∧ k_ ≠ gb166))) (fun _ hk => hk.1.2) (.int .i64 (rd y199 t202))) (fun _ hk => hk.2) (.bool (t167 == 0))) (fun _ hk => hk.2) (.bool x174001_5)) (fun _ hk => hk.2) (.int .i64 x174002_5)) (fun _ hk => hk.2) (.int .i64 (rd y199 t202))) (fun _ hk => hk.2) (.int .i64 x174004_5)) (fun _ hk => hk.2) (.slice Ao70 x174005_5.length co70)) (fun _ hk => hk.1.1.1.1), zi65, zb, zk⟩
     ·rw [if_neg c59] at H
      exact absurd H (by simp)
    ·rw [if_neg c58] at H
     exact absurd H (by simp)
   ·rw [if_neg c56] at H
    have c56b0 : (t197 == 0) = false := beq_eq_false_iff_ne.mpr c56
    have c56b1 : (t197 != 0) = true := bne_iff_ne.mpr c56
    by_cases c71 : t197 = 1
    ·rw [if_pos c71] at H
     have c71b0 : (t197 == 1) = true := beq_iff_eq.mpr c71
     have c71b1 : (t197 != 1) = false := bne_eq_false_iff_eq.mpr c71
     clear c71
     by_cases c72 : 0 < (x174005_5.length : Int)
     ·rw [if_pos c72] at H
      have c72b0 : decide (0 < (x174005_5.length : Int)) = true := decide_eq_true c72
      have c72b1 : decide (0 < x174005_5.length) = true := decide_eq_true (by omega)
      clear c72
      by_cases c73 : x174005_5.length < 1759218604441
      ·rw [if_pos c73] at H
       have LMc73 := Aside0.mk c73
       clear c73
       obtain ⟨y206, hy206⟩ : ∃ y_ : List (S63), y_ = (x174005_5 ++ [(⟨(rd_T63 x174005_5 0).f0, (rd_T63 x174005_5 0).f1, (rd_T63 x174005_5 0).f2, (rd_T63 x174005_5 0).f3, (rd_T63 x174005_5 0).f4, (rd_T63 x174005_5 0).f5⟩ : S63)]) := ⟨_, rfl⟩
       replace H : (some ((t167 == 0), x174001_5, x174002_5, x174003_5, x174004_5, y206, t198)) = some (r1, r2, r3, r4, r5, r6, r7) := by first | (rw [hy206]; with_reducible exact H) | (have H2_ := (Option.bind_some _ _).symm.trans H; rw [hy206]; with_reducible exact H2_) | (have H2_ := (Option.bind_some _ _).symm.trans H; with_reducible exact H2_) | with_reducible exact H | (rw [hy206]; exact H) | exact H
       have Ny206 := Aside0.mk hy206
       clear hy206
       simp only [Option.some.injEq, Prod.mk.injEq] at H
       obtain ⟨rfl, rfl, rfl, rfl, rfl, rfl, rfl⟩ := H
       try go_wp2_with (first | ((with_reducible refine gate_callee (f := 26) rfl ?_); refine goesL_ (some 40) rfl rfl Try.func26 (by kernel_rfl) rfl #[.pointer (some ⟨g, 0, none⟩), .int .i64 40] rfl tq ?_; (with_reducible refine (spec_l6Rd_pick.calls kj5 g s0_0 x1001_5 40 t197 t198 w0 _ ?side1 ?side2 A55.out).mono ?_); (case side1 => exact zi65); (case side2 => exact zb); rintro e w74 ⟨rfl, hi, hb, hk⟩; refine ⟨_, rfl, ?_⟩; replace HO_174005 := tNk HO_174005 hk; replace BK166 := tBk BK166 hk NB166_0; replace BK173 := tBk BK173 hk NB173_0; replace HK := tKt HK hk; replace HB := Aside0.mk (hb); replace HI0 := Aside0.mk (hi); (try clear hb); (try clear hb2); (try clear hk); (try clear hi)))
       replace HO_174005 := Aside0.mk (Kd.N_drew HO_174005.out)
       replace BK166 := Aside0.mk (blk_drew BK166.out)
       replace BK173 := Aside0.mk (blk_drew BK173.out)
       replace HI0 := Aside0.mk (IsS65.drew HI0.out)
       replace HK := Aside0.mk (keep_drew HK.out)
       replace HB := Aside0.mk (below_drew1 HB.out)
       obtain ⟨Ao76, co76, eo76⟩ := Kd.N_slice HO_174005.out
       (first | subst eo76 | (injection eo76 with f1_ f2_ f3_; have f4_ := f1_.symm; have f5_ := f3_.symm; clear f1_ f2_ f3_; subst f4_; subst f5_))
       have p205 : 0 ≤ (0 : Int) := (by omega)
       have q205 : 0 < (x174005_5.length : Int) := td
       obtain ⟨ad205, A205_3, c205_3, A205_5, c205_5, e205, hx205_0, hx205_1, hx205_2, hx205_3, hx205_4, hx205_5, hl205_3, hi205_3, hl205_5, hi205_5⟩ := at_T63 (Kd.N_reads' HO_174005.out).2.2 0 p205 q205
       cases e205
       obtain ⟨ce205, hce205, hMe205, hcc205⟩ := Kd.N_get HO_174005.out z63 0 p205 (by first | exact q205 | exact td | (have e_ := (Kd.N_reads' HO_174005.out).1; omega))
       obtain ⟨ua205_3, uc205_3, ua205_5, uc205_5, rfl, ul205_3, ge205_3, ul205_5, ge205_5⟩ := k63_openF hMe205
       have hv205_3 := hcc205 3 _ rfl
       rw [add_field _ _ 3 (by omega)] at hv205_3
       replace hv205_3 := Option.some.inj (hv205_3.symm.trans hx205_3)
       injection hv205_3 with hva_ hvn_ hvc_
       rw [hva_] at ge205_3
       rw [hvc_] at ul205_3
       have HL205_3 := Aside0.mk (show Kd.V (Kd.int .i64) 3 _ w.heap.size _ _ ((rd_T63 x174005_5 0).f3) from Kd.V_mk ul205_3 ge205_3)
       clear hva_ hvn_ hvc_ ge205_3 ul205_3
       have hv205_5 := hcc205 5 _ rfl
       rw [add_field _ _ 5 (by omega)] at hv205_5
       replace hv205_5 := Option.some.inj (hv205_5.symm.trans hx205_5)
       injection hv205_5 with hva_ hvn_ hvc_
       rw [hva_] at ge205_5
       rw [hvc_] at ul205_5
       have HL205_5 := Aside0.mk (show Kd.V (Kd.int .i64) 3 _ w.heap.size _ _ ((rd_T63 x174005_5 0).f5) from Kd.V_mk ul205_5 ge205_5)
       clear hva_ hvn_ hvc_ ge205_5 ul205_5
       clear hcc205 hce205
       have qi205 : (0 < x174005_5.length) = True := eq_true (by omega)
       (try rw [show ((0 : Int)).toNat = 0 from rfl] at hx205_0)
       (try rw [show 0 * 6 = 0 from rfl] at hx205_0)
       (try rw [Addr.add_zero'] at hx205_0)
       (try rw [show ((0 : Int)).toNat = 0 from rfl] at hx205_1)
       (try rw [show 0 * 6 = 0 from rfl] at hx205_1)
       (try rw [Addr.add_zero'] at hx205_1)
       (try rw [show ((0 : Int)).toNat = 0 from rfl] at hx205_2)
       (try rw [show 0 * 6 = 0 from rfl] at hx205_2)
       (try rw [Addr.add_zero'] at hx205_2)
       (try rw [show ((0 : Int)).toNat = 0 from rfl] at hx205_3)
       (try rw [show 0 * 6 = 0 from rfl] at hx205_3)
       (try rw [Addr.add_zero'] at hx205_3)
       (try rw [show ((0 : Int)).toNat = 0 from rfl] at hx205_4)
       (try rw [show 0 * 6 = 0 from rfl] at hx205_4)
       (try rw [Addr.add_zero'] at hx205_4)
       (try rw [show ((0 : Int)).toNat = 0 from rfl] at hx205_5)
       (try rw [show 0 * 6 = 0 from rfl] at hx205_5)
       (try rw [Addr.add_zero'] at hx205_5)
       have HR205_3 := Aside0.mk hi205_3
       have HC205_3 := Aside0.mk hl205_3
       clear hi205_3 hl205_3
       have HR205_5 := Aside0.mk hi205_5
       have HC205_5 := Aside0.mk hl205_5
       clear hi205_5 hl205_5
       replace p205 := eq_true p205
       replace q205 := eq_true q205
       refine start_ (n := 10) (S := fun w' => w'.cell? ⟨gb173, 0, none⟩ = some (.bool (t167 == 0)) ∧ w'.cell? ⟨gb173, 1, none⟩ = some (.bool x174001_5) ∧ w'.cell? ⟨gb173, 2, none⟩ = some (.int .i64 x174002_5) ∧ w'.cell? ⟨gb173, 3, none⟩ = some (.int .i64 x174003_5) ∧ w'.cell? ⟨gb173, 4, none⟩ = some (.int .i64 x174004_5) ∧ w'.cell? ⟨gb173, 5, none⟩ = some (.slice (some ad205) x174005_5.length co76) ∧ w'.cell? ad205 = some (.int .i64 ((rd_T63 x174005_5 0).f0)) ∧ w'.cell? ⟨ad205.block, ad205.off + 1, none⟩ = some (.int .i64 ((rd_T63 x174005_5 0).f1)) ∧ w'.cell? ⟨ad205.block, ad205.off + 2, none⟩ = some (.bool ((rd_T63 x174005_5 0).f2)) ∧ w'.cell? ⟨ad205.block, ad205.off + 3, none⟩ = some (.slice A205_3 ((rd_T63 x174005_5 0).f3).length c205_3) ∧ w'.cell? ⟨ad205.block, ad205.off + 4, none⟩ = some (.bool ((rd_T63 x174005_5 0).f4)) ∧ w'.cell? ⟨ad205.block, ad205.off + 5, none⟩ = some (.slice A205_5 ((rd_T63 x174005_5 0).f5).length c205_5)) (ds := [7, 9]) #[false, false, false, false, false, false, false, false, false, false] (by kernel_rfl) rfl rfl ⟨(blk_cell BK173.out 0).trans rfl, (blk_cell BK173.out 1).trans rfl, (blk_cell BK173.out 2).trans rfl, (blk_cell BK173.out 3).trans rfl, (blk_cell BK173.out 4).trans rfl, (blk_cell BK173.out 5).trans rfl, hx205_0, hx205_1, hx205_2, hx205_3, hx205_4, hx205_5⟩ (fun hHeld => ?_); refine with_tabW spec_l91Batch.tab13 spec_l91Batch.bits13 (fun HT_ HW_ => ?_)
       generalize w74.drew = w75 at HO_174005 BK166 BK173 HI0 HK HB HL205_3 HL205_5 HR205_3 HR205_5 hx205_0 hx205_1 hx205_2 hx205_3 hx205_4 hx205_5 hHeld ⊢
       refine tpu 0 (some 51) #[true, false, false, false, false, false, false, false, false, false] ?_
       refine tpu 2 (some 53) #[true, false, true, false, false, false, false, false, false, false] ?_
       refine tta 1 (some 52) #[true, true, true, false, false, false, false, false, false, false] hHeld ?_ (hy := by rintro w' ⟨s0, s1, s2, s3, s4, s5, s6, s7, s8, s9, s10, s11⟩; go_simp; with_reducible rfl)
       refine tta 3 (some 54) #[true, true, true, true, false, false, false, false, false, false] hHeld ?_ (hy := by rintro w' ⟨s0, s1, s2, s3, s4, s5, s6, s7, s8, s9, s10, s11⟩; go_simp; with_reducible rfl)
       refine tpu 4 (some 55) #[true, true, true, true, true, false, false, false, false, false] ?_
       refine tta 5 (some 56) #[true, true, true, true, true, true, false, false, false, false] hHeld ?_ (hy := by rintro w' ⟨s0, s1, s2, s3, s4, s5, s6, s7, s8, s9, s10, s11⟩; go_simp; with_reducible rfl)
       refine one_ (i := 6) (N := some 57) #[true, true, true, true, true, true, true, false, false, false] rfl rfl (one_of HT_.out (by kernel_rfl)) (by decide) (fun K hK => ?_)
       refine value_ (w1 := ?_) (v := ?_) (by rfl) rfl ?_ ?_
       rotate_left 2
       ·go_simp
        constructor
        ·rfl
        ·rfl
       refine hK.out _ _ ⟨(blk_cell (blk_alloc BK173.out _) 0).trans rfl, (blk_cell (blk_alloc BK173.out _) 1).trans rfl, (blk_cell (blk_alloc BK173.out _) 2).trans rfl, (blk_cell (blk_alloc BK173.out _) 3).trans rfl, (blk_cell (blk_alloc BK173.out _) 4).trans rfl, (blk_cell (blk_alloc BK173.out _) 5).trans rfl, (World.cell?_alloc_lt _ _ _ (World.block_lt_of_cell? _ _ (hHeld.2.2.2.2.2.2.1))).trans (hHeld.2.2.2.2.2.2.1), (World.cell?_alloc_lt _ _ _ (World.block_lt_of_cell? _ _ (hHeld.2.2.2.2.2.2.2.1))).trans (hHeld.2.2.2.2.2.2.2.1), (World.cell?_alloc_lt _ _ _ (World.block_lt_of_cell? _ _ (hHeld.2.2.2.2.2.2.2.2.1))).trans (hHeld.2.2.2.2.2.2.2.2.1), (World.cell?_alloc_lt _ _ _ (World.block_lt_of_cell? _ _ (hHeld.2.2.2.2.2.2.2.2.2.1))).trans (hHeld.2.2.2.2.2.2.2.2.2.1), (World.cell?_alloc_lt _ _ _ (World.block_lt_of_cell? _ _ (hHeld.2.2.2.2.2.2.2.2.2.2.1))).trans (hHeld.2.2.2.2.2.2.2.2.2.2.1), (World.cell?_alloc_lt _ _ _ (World.block_lt_of_cell? _ _ (hHeld.2.2.2.2.2.2.2.2.2.2.2))).trans (hHeld.2.2.2.2.2.2.2.2.2.2.2)⟩ (fun hHeld => ?_)
       clear hK K
       refine tnm (some 57) ?_
       refine last_ (i := 7) (N := some 58) #[true, true, true, true, true, true, true, true, false, false] rfl rfl (one_of HT_.out (by kernel_rfl)) (by decide) (fun K hK => ?_)
       refine Kd.N_append_step k63 w.heap.size (by rfl) (.tmp 52) (.tmp 57) 44 63 (.agg #[(.int .i64 0), (.int .i64 0), (.bool false), (.slice none 0 0), (.bool false), (.slice none 0 0)]) 80 rfl Try.underlying44 info63 rfl (by decide) (by omega) (.slice (some ad205) x174005_5.length co76) x174005_5 (⟨(rd_T63 x174005_5 0).f0, (rd_T63 x174005_5 0).f1, (rd_T63 x174005_5 0).f2, (rd_T63 x174005_5 0).f3, (rd_T63 x174005_5 0).f4, (rd_T63 x174005_5 0).f5⟩ : S63) [.int .i64 ((rd_T63 x174005_5 0).f0), .int .i64 ((rd_T63 x174005_5 0).f1), .bool ((rd_T63 x174005_5 0).f2), .slice A205_3 ((rd_T63 x174005_5 0).f3).length c205_3, .bool ((rd_T63 x174005_5 0).f4), .slice A205_5 ((rd_T63 x174005_5 0).f5).length c205_5] (fun k_ => (w.heap.size ≤ k_) ∧ k_ ≠ gb166 ∧ k_ ≠ gb173 ∧ k_ ≠ g) (fun k_ => ((fun k_ => (w.heap.size ≤ k_) ∧ k_ ≠ gb166 ∧ k_ ≠ gb173 ∧ k_ ≠ g)) k_ ∧ some k_ ≠ (.slice (some ad205) x174005_5.length co76 : Value).ownBlock) rfl rfl ?aP (fun _ hk => hk) ?aF ?aO (Below.refl _ _) ?aS ?aL ?_
       (case aP => exact (k63_mkF _ _ (⟨(rd_T63 x174005_5 0).f0, (rd_T63 x174005_5 0).f1, (rd_T63 x174005_5 0).f2, (rd_T63 x174005_5 0).f3, (rd_T63 x174005_5 0).f4, (rd_T63 x174005_5 0).f5⟩ : S63) (Kd.V_reads' (Kd.V_mono (ok' := (fun k_ => ((fun k_ => (w.heap.size ≤ k_) ∧ k_ ≠ gb166 ∧ k_ ≠ gb173 ∧ k_ ≠ g)) k_ ∧ some k_ ≠ (.slice (some ad205) x174005_5.length co76 : Value).ownBlock)) (HL205_3.out) (fun k_ hk => ⟨⟨hk.1.1, ⟨hk.1.2.1, ⟨hk.1.2.2.1, hk.1.2.2.2⟩⟩⟩, hk.2⟩))).2.1 (Kd.V_F (Kd.V_mono (ok' := (fun k_ => ((fun k_ => (w.heap.size ≤ k_) ∧ k_ ≠ gb166 ∧ k_ ≠ gb173 ∧ k_ ≠ g)) k_ ∧ some k_ ≠ (.slice (some ad205) x174005_5.length co76 : Value).ownBlock)) (HL205_3.out) (fun k_ hk => ⟨⟨hk.1.1, ⟨hk.1.2.1, ⟨hk.1.2.2.1, hk.1.2.2.2⟩⟩⟩, hk.2⟩))) (Kd.V_reads' (Kd.V_mono (ok' := (fun k_ => ((fun k_ => (w.heap.size ≤ k_) ∧ k_ ≠ gb166 ∧ k_ ≠ gb173 ∧ k_ ≠ g)) k_ ∧ some k_ ≠ (.slice (some ad205) x174005_5.length co76 : Value).ownBlock)) (HL205_5.out) (fun k_ hk => ⟨⟨hk.1.1, ⟨hk.1.2.1, ⟨hk.1.2.2.1, hk.1.2.2.2⟩⟩⟩, hk.2⟩))).2.1 (Kd.V_F (Kd.V_mono (ok' := (fun k_ => ((fun k_ => (w.heap.size ≤ k_) ∧ k_ ≠ gb166 ∧ k_ ≠ gb173 ∧ k_ ≠ g)) k_ ∧ some k_ ≠ (.slice (some ad205) x174005_5.length co76 : Value).ownBlock)) (HL205_5.out) (fun k_ hk => ⟨⟨hk.1.1, ⟨hk.1.2.1, ⟨hk.1.2.2.1, hk.1.2.2.2⟩⟩⟩, hk.2⟩)))))
       (case aF => exact (fun k_ hk => ⟨(Nat.le_trans (keep_size (w := w) (g := g) (row := none) zk) hk), tfB BK166 k_ hk, tfB BK173 k_ hk, IsS65.fresh zi65 k_ hk⟩))
       (case aO => exact (tN HO_174005.out))
       (case aS => exact (keep_size (w := w) (g := g) (row := none) zk))
       (case aL => have := LMc73.out; omega)
       intro v207 w77 ho hb hg hat
       rw [← Ny206.out] at ho
       replace BK166 := Aside0.mk (blk_grown (tH BK166.out) hg (Kd.N_ne HO_174005.out BK166.out (by decide)))
       replace BK173 := Aside0.mk (blk_grown (tH BK173.out) hg (Kd.N_ne HO_174005.out BK173.out (by decide)))
       replace HL205_3 := Aside0.mk (Kd.V_afterv (ok := (fun k_ => (w.heap.size ≤ k_) ∧ k_ ≠ gb166 ∧ k_ ≠ gb173 ∧ k_ ≠ g)) (tV HL205_3.out) hg hat)
       replace HL205_5 := Aside0.mk (Kd.V_afterv (ok := (fun k_ => (w.heap.size ≤ k_) ∧ k_ ≠ gb166 ∧ k_ ≠ gb173 ∧ k_ ≠ g)) (tV HL205_5.out) hg hat)
       replace HB := Aside0.mk (below_weaken zb HL.out hb)
       replace HI0 := Aside0.mk (IsS65.grown zi65 hg (IsS65.own_neN HI0.out HO_174005.out (by decide)))
       replace HK := Aside0.mk (KeepBut.trans zk (KeepBut.of_grown hg g) (Kd.N_base2 HO_174005.out))
       have HO208 := Aside0.mk (ho)
       clear HO_174005
       clear ho hb hg hat
       obtain ⟨Ao78, co78, eo78⟩ := Kd.N_slice HO208.out
       (first | subst eo78 | (injection eo78 with f1_ f2_ f3_; have f4_ := f1_.symm; have f5_ := f3_.symm; clear f1_ f2_ f3_; subst f4_; subst f5_))
       refine hK.out _ _ ?_
       clear hK K
       refine tnm (some 58) ?_
       refine tpu 8 (some 59) #[true, true, true, true, true, true, true, true, true, false] ?_
       refine last_ (i := 9) (N := none) #[true, true, true, true, true, true, true, true, true, true] rfl rfl (one_of HT_.out (by kernel_rfl)) (by decide) (fun K hK => ?_)
       have hs79 : w77.cell? ⟨gb173, 5, none⟩ = some (.slice (some ad205) x174005_5.length co76) := (blk_cell BK173.out 5).trans rfl
       have hfs79 := blk_frozen BK173.out 5
       have hns79_0 := NB166_173.out
       have hms79_0 := NB173_166.out
       refine tsk ?_
       refine hK.out _ _ ?_
       clear hK K
       refine done_ (done_of HT_.out (by kernel_rfl)) ?_
       have hnb80 := NB173_166.out
       have hnc80 := NB166_173.out
       have hnb81 := NB173_0.out
       have hnc81 := NB0_173.out
       obtain ⟨hcz82_0, hcz82_1, hcz82_2, hcz82_3, hcz82_4, hcz82_5, hfz82_0, hfz82_1, hfz82_2, hfz82_3, hfz82_4, hfz82_5⟩ := cells6 BK173.out
       have hnb83 := NB166_0.out
       have hnc83 := NB0_166.out
       obtain ⟨hcz84_0, hcz84_1, hcz84_2, hcz84_3, hcz84_4, hcz84_5, hfz84_0, hfz84_1, hfz84_2, hfz84_3, hfz84_4, hfz84_5⟩ := cells6 BK166.out
       try go_wp2
       refine bodyPost_ret (results_cell_row rfl _ _ gb166 46 #[.bool (t167 == 0), .bool x174001_5, .int .i64 x174002_5, .int .i64 x174003_5, .int .i64 x174004_5, .slice Ao78 y206.length co78] (0, 0) _ rfl (tP BK166.out) Try.underlying46 rfl (by kernel_rfl)) rfl ?_
       exact ⟨_, by first | rfl | (simp [errW_none, errW_some] <;> rfl) | (simp [*, errW_none, errW_some] <;> rfl), by (with_reducible repeat (first | apply Kd.N_alloc | apply Kd.N_drewN | apply Kd.N_drew)); exact Kd.N_mono (Kd.N_far (p := ⟨gb166, 5, none⟩) (Kd.N_far (p := ⟨gb166, 4, none⟩) (Kd.N_far (p := ⟨gb166, 3, none⟩) (Kd.N_far (p := ⟨gb166, 2, none⟩) (Kd.N_far (p := ⟨gb166, 1, none⟩) (Kd.N_far (p := ⟨gb166, 0, none⟩) (Kd.N_far (p := ⟨gb173, 5, none⟩) (Kd.N_mono (Kd.N_mono HO208.out (fun k_ hk => (⟨hk, hk.2.2.1⟩ : _ ∧ k_ ≠ gb173))) (fun k_ hk => (⟨hk, hk.1.2.1⟩ : _ ∧ k_ ≠ gb166))) (fun _ hk => hk.1.2) (.slice Ao78 y206.length co78)) (fun _ hk => hk.2) (.bool (t167 == 0))) (fun _ hk => hk.2) (.bool x174001_5)) (fun _ hk => hk.2) (.int .i64 x174002_5)) (fun _ hk => hk.2) (.int .i64 x174003_5)) (fun _ hk => hk.2) (.int .i64 x174004_5)) (fun _ hk => hk.2) (.slice Ao78 y206.length co78)) (fun _ hk => hk.1.1.1), zi65, zb, zk⟩
      ·rw [if_neg c73] at H
       exact absurd H (by simp)
     ·rw [if_neg c72] at H
      exact absurd H (by simp)
    ·rw [if_neg c71] at H
     have c71b0 : (t197 == 1) = false := beq_eq_false_iff_ne.mpr c71
     have c71b1 : (t197 != 1) = true := bne_iff_ne.mpr c71
     by_cases c85 : t197 = 2
     ·rw [if_pos c85] at H
      have c85b0 : (t197 == 2) = true := beq_iff_eq.mpr c85
      have c85b1 : (t197 != 2) = false := bne_eq_false_iff_eq.mpr c85
      clear c85
      simp only [Option.some.injEq, Prod.mk.injEq] at H
      obtain ⟨rfl, rfl, rfl, rfl, rfl, rfl, rfl⟩ := H
      go_wp2_with (first | ((with_reducible refine gate_callee (f := 26) rfl ?_); refine goesL_ (some 40) rfl rfl Try.func26 (by kernel_rfl) rfl #[.pointer (some ⟨g, 0, none⟩), .int .i64 40] rfl tq ?_; (with_reducible refine (spec_l6Rd_pick.calls kj5 g s0_0 x1001_5 40 t197 t198 w0 _ ?side1 ?side2 A55.out).mono ?_); (case side1 => exact zi65); (case side2 => exact zb); rintro e w86 ⟨rfl, hi, hb, hk⟩; refine ⟨_, rfl, ?_⟩; replace HO_174005 := tNk HO_174005 hk; replace BK166 := tBk BK166 hk NB166_0; replace BK173 := tBk BK173 hk NB173_0; replace HK := tKt HK hk; replace HB := Aside0.mk (hb); replace HI0 := Aside0.mk (hi); (try clear hb); (try clear hb2); (try clear hk); (try clear hi); have hnb87 := NB173_166.out; have hnc87 := NB166_173.out; have hnb88 := NB173_0.out; have hnc88 := NB0_173.out; obtain ⟨hcz89_0, hcz89_1, hcz89_2, hcz89_3, hcz89_4, hcz89_5, hfz89_0, hfz89_1, hfz89_2, hfz89_3, hfz89_4, hfz89_5⟩ := cells6 BK173.out; have hnb90 := NB166_0.out; have hnc90 := NB0_166.out; obtain ⟨hcz91_0, hcz91_1, hcz91_2, hcz91_3, hcz91_4, hcz91_5, hfz91_0, hfz91_1, hfz91_2, hfz91_3, hfz91_4, hfz91_5⟩ := cells6 BK166.out; obtain ⟨Ao92, co92, eo92⟩ := Kd.N_slice HO_174005.out; subst eo92))
      refine bodyPost_ret (results_cell_row rfl _ _ gb166 46 #[.bool (t167 == 0), .bool (!x174001_5), .int .i64 x174002_5, .int .i64 x174003_5, .int .i64 x174004_5, .slice Ao92 x174005_5.length co92] (0, 0) _ rfl (tP BK166.out) Try.underlying46 rfl (by kernel_rfl)) rfl ?_
      exact ⟨_, by first | rfl | (simp [errW_none, errW_some] <;> rfl) | (simp [*, errW_none, errW_some] <;> rfl), by (with_reducible repeat (first | apply Kd.N_alloc | apply Kd.N_drewN | apply Kd.N_drew)); exact Kd.N_mono (Kd.N_far (p := ⟨gb166, 5, none⟩) (Kd.N_far (p := ⟨gb166, 4, none⟩) (Kd.N_far (p := ⟨gb166, 3, none⟩) (Kd.N_far (p := ⟨gb166, 2, none⟩) (Kd.N_far (p := ⟨gb166, 1, none⟩) (Kd.N_far (p := ⟨gb166, 0, none⟩) (Kd.N_far (p := ⟨gb173, 1, none⟩) (Kd.N_mono (Kd.N_mono HO_174005.out (fun k_ hk => (⟨hk, hk.2.2.1⟩ : _ ∧ k_ ≠ gb173))) (fun k_ hk => (⟨hk, hk.1.2.1⟩ : _ ∧ k_ ≠ gb166))) (fun _ hk => hk.1.2) (.bool (!x174001_5))) (fun _ hk => hk.2) (.bool (t167 == 0))) (fun _ hk => hk.2) (.bool (!x174001_5))) (fun _ hk => hk.2) (.int .i64 x174002_5)) (fun _ hk => hk.2) (.int .i64 x174003_5)) (fun _ hk => hk.2) (.int .i64 x174004_5)) (fun _ hk => hk.2) (.slice Ao92 x174005_5.length co92)) (fun _ hk => hk.1.1.1), zi65, zb, zk⟩
     ·rw [if_neg c85] at H
      have c85b0 : (t197 == 2) = false := beq_eq_false_iff_ne.mpr c85
      have c85b1 : (t197 != 2) = true := bne_iff_ne.mpr c85
      simp only [Option.some.injEq, Prod.mk.injEq] at H
      obtain ⟨rfl, rfl, rfl, rfl, rfl, rfl, rfl⟩ := H
      go_wp2_with (first | ((with_reducible refine gate_callee (f := 26) rfl ?_); refine goesL_ (some 40) rfl rfl Try.func26 (by kernel_rfl) rfl #[.pointer (some ⟨g, 0, none⟩), .int .i64 40] rfl tq ?_; (with_reducible refine (spec_l6Rd_pick.calls kj5 g s0_0 x1001_5 40 t197 t198 w0 _ ?side1 ?side2 A55.out).mono ?_); (case side1 => exact zi65); (case side2 => exact zb); rintro e w93 ⟨rfl, hi, hb, hk⟩; refine ⟨_, rfl, ?_⟩; replace HO_174005 := tNk HO_174005 hk; replace BK166 := tBk BK166 hk NB166_0; replace BK173 := tBk BK173 hk NB173_0; replace HK := tKt HK hk; replace HB := Aside0.mk (hb); replace HI0 := Aside0.mk (hi); (try clear hb); (try clear hb2); (try clear hk); (try clear hi); have hnb94 := NB173_166.out; have hnc94 := NB166_173.out; have hnb95 := NB173_0.out; have hnc95 := NB0_173.out; obtain ⟨hcz96_0, hcz96_1, hcz96_2, hcz96_3, hcz96_4, hcz96_5, hfz96_0, hfz96_1, hfz96_2, hfz96_3, hfz96_4, hfz96_5⟩ := cells6 BK173.out; have hnb97 := NB166_0.out; have hnc97 := NB0_166.out; obtain ⟨hcz98_0, hcz98_1, hcz98_2, hcz98_3, hcz98_4, hcz98_5, hfz98_0, hfz98_1, hfz98_2, hfz98_3, hfz98_4, hfz98_5⟩ := cells6 BK166.out; obtain ⟨Ao99, co99, eo99⟩ := Kd.N_slice HO_174005.out; subst eo99))
      refine bodyPost_ret (results_cell_row rfl _ _ gb166 46 #[.bool (t167 == 0), .bool x174001_5, .int .i64 x174002_5, .int .i64 x174003_5, .int .i64 x174004_5, .slice Ao99 x174005_5.length co99] (0, 0) _ rfl (tP BK166.out) Try.underlying46 rfl (by kernel_rfl)) rfl ?_
      exact ⟨_, by first | rfl | (simp [errW_none, errW_some] <;> rfl) | (simp [*, errW_none, errW_some] <;> rfl), tNm HO_174005.out, zi65, zb, zk⟩

end Go.Proofs.Ythoioccmnphfgaa.G

