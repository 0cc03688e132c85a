/- A text of seat Ytkihdohphddjaaa: what the law FnGroupsTwice needs of this repo's texts (by pack.py). Not trusted: Lean checks it. -/
import Derived.Test.YtkihdohphddjaaaKFnGroupsTwice5
namespace Go.Proofs.Ytkihdohphddjaaa.G
open Go.RowKit Go.Proofs.YtkihdohphddjaaaW.PrintWords Go.Proofs.YtkihdohphddjaaaW.PrintLast Go.Proofs.YtkihdohphddjaaaW.PrintMore
set_option linter.unusedVariables false
set_option linter.unusedSimpArgs false
def putR (l : List S25) : List S25 × Bool := if 8 < l.length then ([], false) else (l, true)
def putAt (l : List S25) (g : S25) (p : Int × Bool) : Option (List S25 × Bool) := if (decide (0 ≤ p.1) && decide (p.1 ≤ (l.length : Int)) && (!p.2 || decide (p.1 < (l.length : Int)))) = true then some (putR (putL l g p.1 p.2)) else none
def impl_GroupsPut.f (k : Nat) (l0 : List S25) (a1_0 : ByteArray) (a1_1 : Int) : Option (List S25 × Bool) :=
  (impl_GroupsValid.f k l0).bind fun u => if u = true then (impl_groupValid.f k a1_0 a1_1).bind fun v => if v = true then (bsG k l0 ⟨a1_0, a1_1⟩).bind fun p => putAt l0 ⟨a1_0, a1_1⟩ p else some ([], false) else some ([], false)
/-- A row of groups that was clipped: its block may hold more. -/
def GClip (W : World) (base : Nat) (v : Value) (l : List S25) : Prop :=
  (v = .slice none 0 0 ∧ l = []) ∨ ∃ b c cur, v = .slice (some ⟨b, 0, none⟩) l.length l.length ∧ base ≤ b ∧ W.heap[b]? = some (.cells cur 25 (0, 0)) ∧ l.length ≤ c ∧ c ≤ maxLen ∧ cur.size = c * 2 ∧ cur.toList.take (l.length * 2) = enc2 l
theorem gcells_C {W : World} {b : Nat} {cur : Array Value} {l : List S25} (hh : W.heap[b]? = some (.cells cur 25 (0, 0))) (hm : l.length ≤ maxLen) (ht : cur.toList.take (l.length * 2) = enc2 l) : Kd.C k25 W (some ⟨b, 0, none⟩) l.length l := by
  refine ⟨rfl, by unfold maxLen at hm; omega, fun _ => ⟨_, rfl, fun j p hj => ⟨[.string p.f0, .int .i64 p.f1], rfl, k25_mk _ _, fun i u hi => ?_⟩⟩⟩
  have hr := k25_openM ((reps_mk W 0 (fun _ => True) l).2 j p hj)
  have hjl := (List.getElem?_eq_some_iff.1 hj).1
  rw [← hr, List.getElem?_take, List.getElem?_drop] at hi
  split at hi
  · rename_i hi2
    rw [← ht, List.getElem?_take] at hi
    split at hi
    · rw [Addr.add_lit, cell_of_row W b _ cur _ (0, 0) hh, ← hi, Array.getElem?_toList, Nat.zero_add]
      rfl
    · cases hi
  · cases hi
theorem GClip.toV {W : World} {base : Nat} {v : Value} {l : List S25} (h : GClip W base v l) (n : Nat) : Kd.V k25 25 W n (fun k_ => base ≤ k_) v l := by
  rcases h with ⟨rfl, rfl⟩ | ⟨b, c, cur, rfl, hb, hh, hs, hm, hz, ht⟩
  · exact ⟨none, 0, rfl, Nat.le_refl _, fun W2 _ => ⟨rfl, by simp, fun h => absurd h (by simp)⟩⟩
  · exact ⟨_, _, rfl, Nat.le_refl _, fun W2 hW => gcells_C ((hW b hb (blk_lt hh)).trans hh) (Nat.le_trans hs hm) ht⟩
theorem clip_calls {A : Option Addr} {n c : Nat} (w : World) (hc : n ≤ c) :
    Calls Try.prog 31 #[.slice A n c] w fun e w' => e = .returned (.slice A n n) ∧ w' = w := by
  go_enter Try.func31, Try.ntmps31
  go_wp2
  go_ret
  exact ⟨rfl, rfl⟩
theorem groupsValid_len {k : Nat} {l : List S25} (h : impl_GroupsValid.f k l = some true) : l.length ≤ 8 := by
  unfold impl_GroupsValid.f at h
  by_cases hl : (l.length : Int) > 8
  · rw [if_pos hl] at h
    simp at h
  · omega
theorem new_blk (w : World) (o : Obj) : (w.alloc o).heap[w.heap.size]? = some o := Array.getElem?_push_size
set_option maxRecDepth 100000 in
set_option maxHeartbeats 4000000 in
theorem impl_GroupsPut.callsW (k : Nat) (A0 : Option Addr) (c0 : Nat) (l0 : List S25) (a1_0 : ByteArray) (a1_1 : Int) (r1 : List S25) (r2 : Bool) (w : World) (hr0 : Kd.C k25 w A0 l0.length l0) (hc0 : l0.length ≤ c0) (h : impl_GroupsPut.f k l0 a1_0 a1_1 = some (r1, r2)) :
    Calls Try.prog 8 #[.slice A0 l0.length c0, .agg #[.string a1_0, .int .i64 a1_1]] w fun e w' => ∃ v0_ : Value, e = .returned (.tuple #[v0_, .bool r2]) ∧ GClip w' w.heap.size v0_ r1 ∧ Below w.heap.size w w' := by
  unfold impl_GroupsPut.f at h
  obtain ⟨u, hu, h⟩ := Option.bind_eq_some_iff.mp h
  obtain ⟨w0, hw0⟩ : ∃ w0, w0 = w.alloc (.cells #[.string a1_0, .int .i64 a1_1] 25) := ⟨_, rfl⟩
  have hB0 : Below w.heap.size w w0 := by rw [hw0]; exact below_alloc (Below.refl _ _) _
  have hG0 : w0.heap[w.heap.size]? = some (.cells #[.string a1_0, .int .i64 a1_1] 25 (0, 0)) := by rw [hw0]; exact new_blk _ _
  have hR0 : Kd.C k25 w0 A0 l0.length l0 := Kd.C_below hr0 hB0
  have HR := Aside0.mk hr0
  have HB0 := Aside0.mk hB0
  have HG0 := Aside0.mk hG0
  have HR0 := Aside0.mk hR0
  have HW0 := Aside0.mk hw0
  clear hr0 hB0 hG0 hR0 hw0
  cases u with
  | false =>
    obtain ⟨rfl, rfl⟩ : r1 = [] ∧ r2 = false := by simpa [eq_comm] using h
    go_enter Try.func8, Try.ntmps8
    go_wp2_with (go_at_call 11; rw [← HW0.out]; refine (impl_GroupsValid.calls k A0 c0 l0 false _ HR0.out hc0 hu).mono ?_; rintro e w1 ⟨rfl, hb⟩)
    go_ret2
    exact ⟨_, rfl, .inl ⟨rfl, rfl⟩, below_step HB0.out hb⟩
  | true =>
    simp only [if_true] at h
    obtain ⟨v, hv, h⟩ := Option.bind_eq_some_iff.mp h
    have hl8 := groupsValid_len hu
    cases v with
    | false =>
      obtain ⟨rfl, rfl⟩ : r1 = [] ∧ r2 = false := by simpa [eq_comm] using h
      go_enter Try.func8, Try.ntmps8
      go_wp2_with (first
        | (go_at_call 11; rw [← HW0.out]; refine (impl_GroupsValid.calls k A0 c0 l0 true _ HR0.out hc0 hu).mono ?_; rintro e w1 ⟨rfl, hb⟩; have HG1 := Aside0.mk ((hb.block w.heap.size (blk_lt HG0.out)).trans HG0.out); have HB1 := Aside0.mk (below_step HB0.out hb); clear hb; obtain ⟨hx0, hx1, hf0, hf1⟩ := cells2 HG1.out)
        | (go_at_call 28; refine (impl_groupValid.calls k a1_0 a1_1 false _ hv).mono ?_; rintro e w2 ⟨rfl, hb⟩; have HB2 := Aside0.mk (below_step HB1.out hb); clear hb))
      go_ret2
      exact ⟨_, rfl, .inl ⟨rfl, rfl⟩, HB2.out⟩
    | true =>
      simp only [if_true] at h
      obtain ⟨p, hp, h⟩ := Option.bind_eq_some_iff.mp h
      unfold putAt at h
      split at h
      case isFalse => cases h
      rename_i hpp
      simp only [Bool.and_eq_true, decide_eq_true_eq, Bool.or_eq_true, Bool.not_eq_true'] at hpp
      obtain ⟨⟨hp0, hp1⟩, hp2⟩ := hpp
      have hp3 : p.2 = true → p.1 < (l0.length : Int) := fun e => by rcases hp2 with h9 | h9; · rw [e] at h9; exact absurd h9 (by simp)
                                                                     · exact h9
      have hcl : slices_Clone_impl_Group_impl_Group.f l0 = some l0 := by unfold slices_Clone_impl_Group_impl_Group.f; rw [if_pos (by omega)]
      obtain ⟨q, hq⟩ : ∃ q, q = putL l0 ⟨a1_0, a1_1⟩ p.1 p.2 := ⟨_, rfl⟩
      rw [← hq] at h
      have HP := Aside0.mk hq
      clear hq hp2
      by_cases h8 : 8 < q.length
      · obtain ⟨rfl, rfl⟩ : r1 = [] ∧ r2 = false := by
          unfold putR at h
          rw [if_pos h8] at h
          simpa [eq_comm] using h
        have h8' : (8 : Int) < (q.length : Int) := by omega
        have h8b : decide ((8 : Int) < (q.length : Int)) = true := decide_eq_true h8'
        go_enter Try.func8, Try.ntmps8
        go_wp2_with (first
          | (go_at_call 11; rw [← HW0.out]; refine (impl_GroupsValid.calls k A0 c0 l0 true _ HR0.out hc0 hu).mono ?_; rintro e w1 ⟨rfl, hb⟩; have HG1 := Aside0.mk ((hb.block w.heap.size (blk_lt HG0.out)).trans HG0.out); have HB1 := Aside0.mk (below_step HB0.out hb); clear hb; obtain ⟨hx0, hx1, hf0, hf1⟩ := cells2 HG1.out)
          | (go_at_call 28; refine (impl_groupValid.calls k a1_0 a1_1 true _ hv).mono ?_; rintro e w2 ⟨rfl, hb⟩; have HG2 := Aside0.mk ((hb.block w.heap.size (blk_lt HG1.out)).trans HG1.out); have HB2 := Aside0.mk (below_step HB1.out hb); clear hb hx0 hx1 hf0 hf1)
          | (go_at_call 29; refine (slices_Clone_impl_Group_impl_Group.calls A0 c0 l0 l0 _ (Kd.C_below HR.out HB2.out) hc0 hcl).mono ?_; rintro e w3 ⟨v3, rfl, hr3, hb⟩; obtain ⟨A3, c3, rfl⟩ := Kd.R_slice hr3; have HG3 := Aside0.mk ((hb.block w.heap.size (blk_lt HG2.out)).trans HG2.out); have HB3 := Aside0.mk (below_step HB2.out hb); have HR3 := Aside0.mk (Kd.R_lower hr3 HB2.out.size); clear hb hr3; have hy0 : ∀ o, (w3.alloc o).cell? ⟨w.heap.size, 0, none⟩ = some (.string a1_0) := fun o => (cells2 (blk_alloc HG3.out o)).1; have hy1 : ∀ o, (w3.alloc o).cell? ⟨w.heap.size, 1, none⟩ = some (.int .i64 a1_1) := fun o => (cells2 (blk_alloc HG3.out o)).2.1)
          | (go_at_call 30; refine (put_calls k (base := w.heap.size) (mb := w3.heap.size) (v := .slice A3 l0.length c3) (l := l0) ⟨a1_0, a1_1⟩ p.1 p.2 (by omega) (new_blk _ _) HB3.out.size (Kd.R_alloc (Kd.R_mono (Kd.R_bound HR3.out) (fun k hk => by have := hk.2.2.1; omega)) _) (Nat.le_trans HB3.out.size (below_alloc (Below.refl _ _) _).size) hp hp0 hp1 hp3).mono ?_; rintro e w5 ⟨rfl, v5, hm5, hr5, hb5⟩; rw [← HP.out] at hr5; obtain ⟨A5, c5, rfl⟩ := Kd.R_slice hr5; have hx5 : w5.cell? ⟨w3.heap.size, 2, none⟩ = some (.slice A5 q.length c5) := (blk_cell hm5 2).trans rfl; have HB5 := Aside0.mk ((HB3.out.alloc HB3.out.size _).trans hb5); have HR5 := Aside0.mk hr5; clear hm5 hr5 hb5 hy0 hy1))
        go_ret2
        exact ⟨_, rfl, .inl ⟨rfl, rfl⟩, HB5.out⟩
      · obtain ⟨rfl, rfl⟩ : r1 = q ∧ r2 = true := by
          unfold putR at h
          rw [if_neg h8] at h
          simpa [eq_comm] using h
        have h8' : ¬ (8 : Int) < (r1.length : Int) := by omega
        have h8b : decide ((8 : Int) < (r1.length : Int)) = false := decide_eq_false h8'
        go_enter Try.func8, Try.ntmps8
        go_wp2_with (first
          | (go_at_call 11; rw [← HW0.out]; refine (impl_GroupsValid.calls k A0 c0 l0 true _ HR0.out hc0 hu).mono ?_; rintro e w1 ⟨rfl, hb⟩; have HG1 := Aside0.mk ((hb.block w.heap.size (blk_lt HG0.out)).trans HG0.out); have HB1 := Aside0.mk (below_step HB0.out hb); clear hb; obtain ⟨hx0, hx1, hf0, hf1⟩ := cells2 HG1.out)
          | (go_at_call 28; refine (impl_groupValid.calls k a1_0 a1_1 true _ hv).mono ?_; rintro e w2 ⟨rfl, hb⟩; have HG2 := Aside0.mk ((hb.block w.heap.size (blk_lt HG1.out)).trans HG1.out); have HB2 := Aside0.mk (below_step HB1.out hb); clear hb hx0 hx1 hf0 hf1)
          | (go_at_call 29; refine (slices_Clone_impl_Group_impl_Group.calls A0 c0 l0 l0 _ (Kd.C_below HR.out HB2.out) hc0 hcl).mono ?_; rintro e w3 ⟨v3, rfl, hr3, hb⟩; obtain ⟨A3, c3, rfl⟩ := Kd.R_slice hr3; have HG3 := Aside0.mk ((hb.block w.heap.size (blk_lt HG2.out)).trans HG2.out); have HB3 := Aside0.mk (below_step HB2.out hb); have HR3 := Aside0.mk (Kd.R_lower hr3 HB2.out.size); clear hb hr3; have hy0 : ∀ o, (w3.alloc o).cell? ⟨w.heap.size, 0, none⟩ = some (.string a1_0) := fun o => (cells2 (blk_alloc HG3.out o)).1; have hy1 : ∀ o, (w3.alloc o).cell? ⟨w.heap.size, 1, none⟩ = some (.int .i64 a1_1) := fun o => (cells2 (blk_alloc HG3.out o)).2.1)
          | (go_at_call 30; refine (put_calls k (base := w.heap.size) (mb := w3.heap.size) (v := .slice A3 l0.length c3) (l := l0) ⟨a1_0, a1_1⟩ p.1 p.2 (by omega) (new_blk _ _) HB3.out.size (Kd.R_alloc (Kd.R_mono (Kd.R_bound HR3.out) (fun k hk => by have := hk.2.2.1; omega)) _) (Nat.le_trans HB3.out.size (below_alloc (Below.refl _ _) _).size) hp hp0 hp1 hp3).mono ?_; rintro e w5 ⟨rfl, v5, hm5, hr5, hb5⟩; rw [← HP.out] at hr5; obtain ⟨A5, c5, rfl⟩ := Kd.R_slice hr5; have hx5 : w5.cell? ⟨w3.heap.size, 2, none⟩ = some (.slice A5 r1.length c5) := (blk_cell hm5 2).trans rfl; have HB5 := Aside0.mk ((HB3.out.alloc HB3.out.size _).trans hb5); have HR5 := Aside0.mk hr5; clear hm5 hr5 hb5 hy0 hy1)
          | (go_at_call 31; refine (clip_calls _ (Kd.R_reads' HR5.out).2.1).mono ?_; rintro e w6 ⟨rfl, rfl⟩))
        go_ret2
        refine ⟨_, rfl, ?_, HB5.out⟩
        rcases gR_open HR5.out with ⟨h1, h2⟩ | ⟨b, c, cur, h1, h2, h3, h4, h5, h6, h7, h9⟩
        · injection h1 with h1 h2' h3'
          exact .inl ⟨by rw [h1, h2']; rfl, h2⟩
        · injection h1 with h1 h2' h3'
          subst h1
          exact .inr ⟨b, c, cur, rfl, h3, h4, h5, h6, h7, h9⟩
theorem impl_GroupsPut.calls (k : Nat) (A0 : Option Addr) (c0 : Nat) (l0 : List S25) (a1_0 : ByteArray) (a1_1 : Int) (r1 : List S25) (r2 : Bool) (w : World) (hr0 : Kd.C k25 w A0 l0.length l0) (hc0 : l0.length ≤ c0) (h : impl_GroupsPut.f k l0 a1_0 a1_1 = some (r1, r2)) :
    Calls Try.prog 8 #[.slice A0 l0.length c0, .agg #[.string a1_0, .int .i64 a1_1]] w fun e w' => ∃ v0_ : Value, e = .returned (.tuple #[v0_, .bool r2]) ∧ Kd.V k25 25 w' w.heap.size (fun k_ => (w.heap.size ≤ k_)) v0_ r1 ∧ Below w.heap.size w w' :=
  (impl_GroupsPut.callsW k A0 c0 l0 a1_0 a1_1 r1 r2 w hr0 hc0 h).mono fun e w' ⟨v, he, hR, hB⟩ => ⟨v, he, hR.toV _, hB⟩
end Go.Proofs.Ytkihdohphddjaaa.G

namespace Go.Proofs.Ytkihdohphddjaaa.G
open Go.RowKit Go.Proofs.YtkihdohphddjaaaW.PrintWords Go.Proofs.YtkihdohphddjaaaW.PrintLast Go.Proofs.YtkihdohphddjaaaW.PrintMore
attribute [local go_sem] max2_int min2_int max_two min_two max_three min_three max_four min_four   -- for this text's walks alone
set_option linter.unusedVariables false
set_option linter.unusedSimpArgs false

def IsS81 (w0 W : World) (g : Nat) (f0 : List Int) (f1 : Int) : Prop := ∃ A0 c0, W.heap[g]? = some (.cells #[.slice A0 f0.length c0, .int .i64 f1] 81 (0, 0)) ∧ w0.heap.size ≤ g ∧ Kd.C (Kd.int .u8) w0 A0 f0.length f0
theorem IsS81.grown {w0 W : World} {g : Nat} {f0 : List Int} {f1 : Int} {W1 : World} {row : Option Nat} (h : IsS81 w0 W g f0 f1) (hw : W.grownBy W1 row) (hne : some g ≠ row) : IsS81 w0 W1 g f0 f1 := by
 obtain ⟨A0, c0, hb, hg, hr0⟩ := h
 exact ⟨A0, c0, blk_grown hb hw hne, hg, hr0⟩
theorem IsS81.kept {w0 W : World} {g : Nat} {f0 : List Int} {f1 : Int} {W1 : World} {S : Nat → Prop} (h : IsS81 w0 W g f0 f1) (hk : Kept W W1 S) (hne : ¬ S g) : IsS81 w0 W1 g f0 f1 := by
 obtain ⟨A0, c0, hb, hg, hr0⟩ := h
 exact ⟨A0, c0, blk_kept hb hk hne, hg, hr0⟩
theorem IsS81.below {w0 W : World} {g : Nat} {f0 : List Int} {f1 : Int} {W1 : World} (h : IsS81 w0 W g f0 f1) (hw : Below W.heap.size W W1) : IsS81 w0 W1 g f0 f1 := h.grown (grown_of_below hw none) (by simp)
theorem IsS81.alloc {w0 W : World} {g : Nat} {f0 : List Int} {f1 : Int} (h : IsS81 w0 W g f0 f1) (o : Obj) : IsS81 w0 (W.alloc o) g f0 f1 := h.below (below_alloc (Below.refl _ _) o)
theorem IsS81.drewN {w0 W : World} {g : Nat} {f0 : List Int} {f1 : Int} (h : IsS81 w0 W g f0 f1) (m : Nat) : IsS81 w0 (W.drewN m) g f0 f1 := h
theorem IsS81.drew {w0 W : World} {g : Nat} {f0 : List Int} {f1 : Int} (h : IsS81 w0 W g f0 f1) : IsS81 w0 W.drew g f0 f1 := h
theorem IsS81.at_ {w0 W : World} {g : Nat} {f0 : List Int} {f1 : Int} {w' : World} {m : Nat} (hq : W.drewN m = w') (h : IsS81 w0 W g f0 f1) : IsS81 w0 w' g f0 f1 := by subst hq; exact IsS81.drewN h m
theorem IsS81.apart {w0 W : World} {g : Nat} {f0 : List Int} {f1 : Int} {α : Type} {d : Kd α} {e : Nat} {base : Nat} {ok : Nat → Prop} {v : Value} {xs : List α} (h : IsS81 w0 W g f0 f1) (ho : d.R e W base ok v xs) (ht : ∀ q, q ∈ e :: d.E → q ≠ 81) : d.R e W base (fun k => ok k ∧ k ≠ g) v xs := by
 obtain ⟨A0, c0, hb, hg, hr0⟩ := h
 exact Kd.R_types ho hb ht
theorem IsS81.own_ne {w0 W : World} {g : Nat} {f0 : List Int} {f1 : Int} {α : Type} {d : Kd α} {e : Nat} {base : Nat} {ok : Nat → Prop} {v : Value} {xs : List α} (h : IsS81 w0 W g f0 f1) (ho : d.R e W base ok v xs) (ht : e ≠ 81) : some g ≠ v.ownBlock := by
 obtain ⟨A0, c0, hb, hg, hr0⟩ := h
 exact Kd.R_ne ho hb ht
theorem IsS81.ge {w0 W : World} {g : Nat} {f0 : List Int} {f1 : Int} (h : IsS81 w0 W g f0 f1) : w0.heap.size ≤ g := by
 obtain ⟨A0, c0, hb, hg, hr0⟩ := h
 exact hg
theorem IsS81.ne_blk {w0 W : World} {g : Nat} {f0 : List Int} {f1 : Int} {a : Nat} {cs : Array Value} {t : TypeId} {fr : Nat × Nat} (h : IsS81 w0 W g f0 f1) (hb2 : W.heap[a]? = some (.cells cs t fr)) (ht : t ≠ 81) : g ≠ a := by
 obtain ⟨A0, c0, hb, hg, hr0⟩ := h
 rintro rfl
 rw [hb] at hb2
 injection hb2 with hb2
 injection hb2 with _ ht2
 exact ht ht2.symm
theorem IsS81.far {w0 W : World} {g : Nat} {f0 : List Int} {f1 : Int} {p : Addr} (h : IsS81 w0 W g f0 f1) (hne : g ≠ p.block) (u : Value) : IsS81 w0 (W.setCell p u) g f0 f1 := by
 obtain ⟨A0, c0, hb, hg, hr0⟩ := h
 exact ⟨A0, c0, blk_far hb hne u, hg, hr0⟩
theorem cellS81_0 {W : World} {g : Nat} {A0 : Option Addr} {c0 : Nat} {f0 : List Int} {f1 : Int} (h : W.heap[g]? = some (.cells #[.slice A0 f0.length c0, .int .i64 f1] 81 (0, 0))) : W.cell? ⟨g, 0, none⟩ = some (.slice A0 f0.length c0) := (blk_cell h 0).trans rfl
theorem cellS81_1 {W : World} {g : Nat} {A0 : Option Addr} {c0 : Nat} {f0 : List Int} {f1 : Int} (h : W.heap[g]? = some (.cells #[.slice A0 f0.length c0, .int .i64 f1] 81 (0, 0))) : W.cell? ⟨g, 1, none⟩ = some (.int .i64 f1) := (blk_cell h 1).trans rfl
theorem IsS81.set_1 {w0 W : World} {g : Nat} {f0 : List Int} {f1 : Int} (h : IsS81 w0 W g f0 f1) (x : Int) : IsS81 w0 (W.setCell ⟨g, 1, none⟩ (.int .i64 x)) g f0 x := by
 obtain ⟨A0, c0, hb, hg, hr0⟩ := h
 exact ⟨A0, c0, by simpa using blk_set hb 1 (.int .i64 x), hg, hr0⟩
section
variable {α : Type} {d : Kd α} {e : Nat} {w w0 W w1 : World} {base g : Nat} {ok : Nat → Prop} {v : Value} {xs : List α}
theorem zi81 {p : Prop} (h : p := by repeat (first | (with_reducible first | exact HI0.out | apply IsS81.alloc | apply IsS81.drewN | apply IsS81.drew | apply IsS81.set_1 | (apply IsS81.far; (case hne => exact Aside0.out (by with_reducible assumption)))) | exact HI0.out)) : p := h
theorem tIb81 {f0 : List Int} {f1 f1' : Int} (h : Aside0 (IsS81 w w0 g f0 f1)) (hb : Below W.heap.size W w1) (k : IsS81 w w0 g f0 f1 → IsS81 w W g f0 f1' := by intro h_; repeat (first | (with_reducible first | exact h_ | apply IsS81.alloc | apply IsS81.drewN | apply IsS81.drew | apply IsS81.set_1 | (apply IsS81.far; (case hne => exact Aside0.out (by with_reducible assumption)))) | exact h_)) : Aside0 (IsS81 w w1 g f0 f1') := ⟨(k h.out).below hb⟩
theorem tRp81 {f0 : List Int} {f1 f1' : Int} {w' : World} (h : Aside0 (Kd.R d e w base ok v xs)) (hi : Aside0 (IsS81 w0 w1 g f0 f1)) (hk : KeepBut W w' g none) (k : Kd.R d e w base ok v xs → Kd.R d e W base ok v xs := by intro h_; (with_reducible repeat (first | apply Kd.R_alloc | apply Kd.R_drewN | apply Kd.R_drew | refine Kd.R_far ?_ (fun _ hk_ => Pr.out hk_) _)); exact h_) (ki : IsS81 w0 w1 g f0 f1 → IsS81 w0 W g f0 f1' := by intro h_; repeat (first | (with_reducible first | exact h_ | apply IsS81.alloc | apply IsS81.drewN | apply IsS81.drew | apply IsS81.set_1 | (apply IsS81.far; (case hne => exact Aside0.out (by with_reducible assumption)))) | exact h_)) (ht : ∀ q, q ∈ e :: d.E → q ≠ 81 := by decide) : Aside0 (Kd.R d e w' base ok v xs) := ⟨Kd.R_mono (Kd.R_keep (IsS81.apart (ki hi.out) (k h.out) ht) hk (fun _ h => h.2)) (fun _ h => h.1)⟩
end

def spec_l6Open.f (l0 : List Int) : Option (List Int × Int) := if (l0.length : Int) > 2000 then (if 2000 ≤ (l0.length : Int) then (some (l0.take 2000, 0)) else (none)) else (some (l0, 0))
set_option maxHeartbeats 8000000 in
set_option maxRecDepth 100000 in
theorem spec_l6Open.calls (A0 : Option Addr) (c0 : Nat) (l0 : List Int) (r1 : List Int) (r2 : Int) (w0 w : World) (hB : Below w0.heap.size w0 w) (hr0 : Kd.C (Kd.int .u8) w0 A0 l0.length l0) (hc0 : l0.length ≤ c0) (h : spec_l6Open.f l0 = some (r1, r2)) :
  Calls Try.prog 24 #[.slice A0 l0.length c0] w fun e w' => ∃ g_ : Nat, e = .returned (.pointer (some ⟨g_, 0, none⟩)) ∧ IsS81 w0 w' g_ r1 r2 ∧ Below w0.heap.size w0 w' ∧ Below w.heap.size w w' := by
 have hu81 := Try.underlying81
 have HR0 := Aside0.mk hr0
 have HC0 := Aside0.mk hc0
 clear hr0 hc0
 have HBW := Aside0.mk (Below.refl w.heap.size w)
 have HW0 := Aside0.mk hB.size
 have HB := Aside0.mk hB
 clear hB
 have H : (if (l0.length : Int) > 2000 then (if 2000 ≤ (l0.length : Int) then (some (l0.take 2000, 0)) else (none)) else (some (l0, 0))) = some (r1, r2) := h
 clear h
 by_cases c2 : (l0.length : Int) > 2000
 ·rw [if_pos c2] at H
  have c2b0 : decide (2000 < (l0.length : Int)) = true := decide_eq_true c2
  have c2b1 : decide (2000 < l0.length) = true := decide_eq_true (by omega)
  clear c2
  by_cases c3 : 2000 ≤ (l0.length : Int)
  ·rw [if_pos c3] at H
   have c3b0 := eq_true c3
   have c3b1 : decide (2000 ≤ (l0.length : Int)) = true := decide_eq_true c3
   clear c3
   simp only [Option.some.injEq, Prod.mk.injEq] at H
   obtain ⟨rfl, rfl⟩ := H
   obtain ⟨i04, hi04, _, hsz4, _⟩ := info_parts info5
   obtain ⟨hcut4, hA4, hC4⟩ := print_take_of (P := Try.prog) (Value.int .u8) 0 22 5 .i64 Try.underlying22 hi04 hsz4 A0 c0 l0 2000 (by omega) (td) HC0.out
   have HR101 := Aside0.mk (Kd.C_of_reads (h1 := fun _ => rfl) (hA4 _ (Kd.reads_of_C HR0.out)))
   have HC101 := Aside0.mk hC4
   clear hA4 hC4 hi04 hsz4
   go_enter Try.func24, Try.ntmps24
   go_wp2_with (first | ((with_reducible refine gate_dst (N := 10) rfl ?_); refine box_event ?hg (N := 10) ?hd (cs := #[.slice A0 (l0.take 2000).length c0, .int .i64 0]) (t := 81) ?hr ?_; (case hd => rfl); (case hg => rfl); (case hr => first | (go_simp; done) | (go_simp; rfl)); intro gb102 hg w5 hbox hb; replace HB := tBs HB hb; have BK102 := Aside0.mk (hbox); have GW102 := Aside0.mk ((by rw [hg]; exact (below_size (by repeat (first | (with_reducible first | exact HBW.out | apply below_alloc | apply pw_below_drewN | apply below_drew1) | exact HBW.out))) : w.heap.size ≤ gb102)); have GE102 := Aside0.mk ((Nat.le_trans HW0.out (by rw [hg]; exact (below_size (by repeat (first | (with_reducible first | exact HBW.out | apply below_alloc | apply pw_below_drewN | apply below_drew1) | exact HBW.out))) : w.heap.size ≤ gb102) : w0.heap.size ≤ gb102)); replace HBW := Aside0.mk (below_step HBW.out hb); clear hb hbox hg))
   go_ret
   exact ⟨_, rfl, (show IsS81 w0 _ gb102 (l0.take 2000) 0 from ⟨_, _, tH BK102.out, GE102.out, HR101.out⟩), zb, by repeat (first | (with_reducible first | exact HBW.out | apply below_alloc | apply pw_below_drewN | apply below_drew1 | refine below_set ?_ GW102.out) | exact HBW.out)⟩
  ·rw [if_neg c3] at H
   exact absurd H (by simp)
 ·rw [if_neg c2] at H
  have c2b0 : decide (2000 < (l0.length : Int)) = false := decide_eq_false c2
  have c2b1 : decide (2000 < l0.length) = false := decide_eq_false (by omega)
  clear c2
  simp only [Option.some.injEq, Prod.mk.injEq] at H
  obtain ⟨rfl, rfl⟩ := H
  go_enter Try.func24, Try.ntmps24
  go_wp2_with (first | ((with_reducible refine gate_dst (N := 10) rfl ?_); refine box_event ?hg (N := 10) ?hd (cs := #[.slice A0 l0.length c0, .int .i64 0]) (t := 81) ?hr ?_; (case hd => rfl); (case hg => rfl); (case hr => first | (go_simp; done) | (go_simp; rfl)); intro gb103 hg w6 hbox hb; replace HB := tBs HB hb; have BK103 := Aside0.mk (hbox); have GW103 := Aside0.mk ((by rw [hg]; exact (below_size (by repeat (first | (with_reducible first | exact HBW.out | apply below_alloc | apply pw_below_drewN | apply below_drew1) | exact HBW.out))) : w.heap.size ≤ gb103)); have GE103 := Aside0.mk ((Nat.le_trans HW0.out (by rw [hg]; exact (below_size (by repeat (first | (with_reducible first | exact HBW.out | apply below_alloc | apply pw_below_drewN | apply below_drew1) | exact HBW.out))) : w.heap.size ≤ gb103) : w0.heap.size ≤ gb103)); replace HBW := Aside0.mk (below_step HBW.out hb); clear hb hbox hg))
  go_ret
  exact ⟨_, rfl, (show IsS81 w0 _ gb103 l0 0 from ⟨_, _, tH BK103.out, GE103.out, HR0.out⟩), zb, by repeat (first | (with_reducible first | exact HBW.out | apply below_alloc | apply pw_below_drewN | apply below_drew1 | refine below_set ?_ GW103.out) | exact HBW.out)⟩

end Go.Proofs.Ytkihdohphddjaaa.G

namespace Go.Proofs.Ytkihdohphddjaaa.G
open Go.RowKit Go.Proofs.YtkihdohphddjaaaW.PrintWords Go.Proofs.YtkihdohphddjaaaW.PrintLast Go.Proofs.YtkihdohphddjaaaW.PrintMore
attribute [local go_sem] max2_int min2_int max_two min_two max_three min_three max_four min_four   -- for this text's walks alone
set_option linter.unusedVariables false
set_option linter.unusedSimpArgs false

def spec_l6In.f (a0 : Int) (a1 : Int) (a2 : Int) : Option (Bool) := if a0 ≥ a1 then (some (decide (a0 ≤ a2))) else (some false)
set_option maxHeartbeats 8000000 in
set_option maxRecDepth 100000 in
theorem spec_l6In.calls (a0 : Int) (a1 : Int) (a2 : Int) (r : Bool) (w : World) (h : spec_l6In.f a0 a1 a2 = some r) :
  Calls Try.prog 50 #[.int .i64 a0, .int .i64 a1, .int .i64 a2] w fun e w' => e = .returned (.bool r) ∧ Drawn0 w w' := by
 have H : (if a0 ≥ a1 then (some (decide (a0 ≤ a2))) else (some false)) = some r := h
 clear h
 by_cases c4 : a0 ≥ a1
 ·rw [if_pos c4] at H
  have c4b0 : decide (a1 ≤ a0) = true := decide_eq_true c4
  clear c4
  obtain rfl := Option.some.inj H
  go_enter Try.func50, Try.ntmps50
  go_wp2
  go_ret
  exact ⟨by first | rfl | (simp; done) | (simp [*]; done), by repeat (first | exact Drawn0.refl _ | apply Drawn0.step)⟩
 ·rw [if_neg c4] at H
  have c4b0 : decide (a1 ≤ a0) = false := decide_eq_false c4
  clear c4
  obtain rfl := Option.some.inj H
  go_enter Try.func50, Try.ntmps50
  go_wp2
  go_ret
  exact ⟨by first | rfl | (simp; done) | (simp [*]; done), by repeat (first | exact Drawn0.refl _ | apply Drawn0.step)⟩

end Go.Proofs.Ytkihdohphddjaaa.G

namespace Go.Proofs.Ytkihdohphddjaaa.G
open Go.RowKit Go.Proofs.YtkihdohphddjaaaW.PrintWords Go.Proofs.YtkihdohphddjaaaW.PrintLast Go.Proofs.YtkihdohphddjaaaW.PrintMore
attribute [local go_sem] max2_int min2_int max_two min_two max_three min_three max_four min_four   -- for this text's walks alone
set_option linter.unusedVariables false
set_option linter.unusedSimpArgs false

def spec_l32Group.l0 : Nat → Int → ByteArray → Int → Option (Bool)
 | 0, _, _, _ => none
 | k + 1, x3, x105000, x105001 => if x3 < (x105000.size : Int) then (if 0 ≤ x3 then (if (bt x105000 x3) < 97 then (some false) else (if (bt x105000 x3) > 122 then (some false) else (spec_l32Group.l0 k (wrap64 (x3 + 1)) x105000 x105001))) else (none)) else ((spec_l6In.f (x105000.size : Int) 1 6).bind fun t105 => (if t105 = true then ((spec_l6In.f x105001 0 100000).bind fun t106 => (some t106)) else (some false)))
def spec_l32Group.f (k : Nat) (a0_0 : ByteArray) (a0_1 : Int) : Option (Bool) := spec_l32Group.l0 k 0 a0_0 a0_1
set_option maxHeartbeats 8000000 in
set_option maxRecDepth 100000 in
theorem spec_l32Group.calls (k : Nat) (a0_0 : ByteArray) (a0_1 : Int) (r : Bool) (w : World) (h : spec_l32Group.f k a0_0 a0_1 = some r) :
  Calls Try.prog 33 #[.agg #[.string a0_0, .int .i64 a0_1]] w fun e w' => e = .returned (.bool r) ∧ Below w.heap.size w w' := by
 have hu25 := Try.underlying25
 have HB := Aside0.mk (Below.refl w.heap.size w)
 have H : (spec_l32Group.l0 k 0 a0_0 a0_1) = some r := h
 clear h
 have H' := Aside0.mk H
 clear H
 go_enter Try.func33, Try.ntmps33
 go_wp2_with (first | ((with_reducible refine gate_dst (N := 1) rfl ?_); refine box_event ?hg (N := 1) ?hd (cs := #[.string a0_0, .int .i64 a0_1]) (t := 25) ?hr ?_; (case hd => rfl); (case hg => rfl); (case hr => first | (go_simp; done) | (go_simp; rfl)); intro gb104 hg w2 hbox hb; have BK104 := Aside0.mk (hbox); have GW104 := tge HB hg; have GE104 := tge HB hg; replace HB := tBs HB hb; clear hb hbox hg))
 go_loopg [3] k (fun kq v3 w' => ∃ (x3_1 : Int), v3 = .int .i64 x3_1 ∧ Aside0 (spec_l32Group.l0 kq x3_1 a0_0 a0_1 = some r) ∧ Aside0 (kq ≤ k) ∧ Aside0 (w'.heap[gb104]? = some (.cells #[.string a0_0, .int .i64 a0_1] 25 (0, 0))) ∧ Aside0 (Below w.heap.size w w'))
 case atStart => exact ⟨(0), tr, H', ⟨Nat.le_refl _⟩, ⟨tH BK104.out⟩, ⟨zb⟩⟩
 case round =>
  clear H'
  obtain ⟨x3_1, rfl, HA, HK1, BK104, HB⟩ := hrel
  cases gk with
  | zero => exact absurd HA.out (by simp [spec_l32Group.l0])
  | succ k1 =>
   have H := HA.out
   clear HA
   simp only [spec_l32Group.l0] at H
   by_cases c3 : x3_1 < (a0_0.size : Int)
   ·rw [if_pos c3] at H
    have c3b0 : decide (x3_1 < (a0_0.size : Int)) = true := decide_eq_true c3
    clear c3
    by_cases c4 : 0 ≤ x3_1
    ·rw [if_pos c4] at H
     have c4b0 : decide (0 ≤ x3_1) = true := decide_eq_true c4
     clear c4
     by_cases c6 : (bt a0_0 x3_1) < 97
     ·rw [if_pos c6] at H
      have c6b0 : decide ((bt a0_0 x3_1) < 97) = true := decide_eq_true c6
      clear c6
      obtain rfl := Option.some.inj H
      obtain ⟨hcz7_0, hcz7_1, hfz7_0, hfz7_1⟩ := cells2 BK104.out
      have p5 : 0 ≤ (x3_1 : Int) := td
      have q5 : x3_1 < (a0_0.size : Int) := td
      have hx5 := bt_at a0_0 x3_1
      replace p5 := eq_true p5
      replace q5 := eq_true q5
      go_wp2
      go_ret
      exact ⟨by first | rfl | (simp [errW_none, errW_some] <;> rfl) | (simp [*, errW_none, errW_some] <;> rfl), zb⟩
     ·rw [if_neg c6] at H
      have c6b0 : decide ((bt a0_0 x3_1) < 97) = false := decide_eq_false c6
      clear c6
      by_cases c9 : (bt a0_0 x3_1) > 122
      ·rw [if_pos c9] at H
       have c9b0 : decide (122 < (bt a0_0 x3_1)) = true := decide_eq_true c9
       clear c9
       obtain rfl := Option.some.inj H
       obtain ⟨hcz10_0, hcz10_1, hfz10_0, hfz10_1⟩ := cells2 BK104.out
       have p5 : 0 ≤ (x3_1 : Int) := td
       have q5 : x3_1 < (a0_0.size : Int) := td
       have hx5 := bt_at a0_0 x3_1
       replace p5 := eq_true p5
       replace q5 := eq_true q5
       have p8 : 0 ≤ (x3_1 : Int) := td
       have q8 : x3_1 < (a0_0.size : Int) := td
       have hx8 := bt_at a0_0 x3_1
       replace p8 := eq_true p8
       replace q8 := eq_true q8
       go_wp2
       go_ret
       exact ⟨by first | rfl | (simp [errW_none, errW_some] <;> rfl) | (simp [*, errW_none, errW_some] <;> rfl), zb⟩
      ·rw [if_neg c9] at H
       have c9b0 : decide (122 < (bt a0_0 x3_1)) = false := decide_eq_false c9
       clear c9
       have H' := Aside0.mk H
       clear H
       obtain ⟨hcz11_0, hcz11_1, hfz11_0, hfz11_1⟩ := cells2 BK104.out
       have p5 : 0 ≤ (x3_1 : Int) := td
       have q5 : x3_1 < (a0_0.size : Int) := td
       have hx5 := bt_at a0_0 x3_1
       replace p5 := eq_true p5
       replace q5 := eq_true q5
       have p8 : 0 ≤ (x3_1 : Int) := td
       have q8 : x3_1 < (a0_0.size : Int) := td
       have hx8 := bt_at a0_0 x3_1
       replace p8 := eq_true p8
       replace q8 := eq_true q8
       go_wp2
       go_roundg k1
       case measure => have := HK1.out; omega
       case rel => exact ⟨(wrap64 (x3_1 + 1)), tr, H', ⟨by have := HK1.out; omega⟩, ⟨tH BK104.out⟩, ⟨zb⟩⟩
    ·rw [if_neg c4] at H
     exact absurd H (by simp)
   ·rw [if_neg c3] at H
    have c3b0 : decide (x3_1 < (a0_0.size : Int)) = false := decide_eq_false c3
    clear c3
    replace H := tbe H
    obtain ⟨t105, A12, H⟩ := H
    by_cases c13 : t105 = true
    ·subst c13
     rw [if_pos rfl] at H
     replace H := tbe H
     obtain ⟨t106, A14, H⟩ := H
     obtain rfl := Option.some.inj H
     obtain ⟨hcz15_0, hcz15_1, hfz15_0, hfz15_1⟩ := cells2 BK104.out
     go_wp2_with (first | ((with_reducible refine gate_callee (f := 50) rfl ?_); refine goesL_ (some 26) rfl rfl Try.func50 (by kernel_rfl) rfl #[.int .i64 (a0_0.size : Int), .int .i64 1, .int .i64 6] rfl tq ?_; (with_reducible refine (spec_l6In.calls (a0_0.size : Int) 1 6 true _ A12.out).mono ?_); rintro e w' ⟨rfl, ⟨nd, rfl⟩⟩; refine ⟨_, rfl, ?_⟩) | (go_at_call 50; (with_reducible refine (spec_l6In.calls a0_1 0 100000 t106 _ A14.out).mono ?_); rintro e w' ⟨rfl, ⟨nd, rfl⟩⟩))
     go_ret
     exact ⟨by first | rfl | (simp [errW_none, errW_some] <;> rfl) | (simp [*, errW_none, errW_some] <;> rfl), zb⟩
    ·replace c13 := Bool.eq_false_iff.mpr c13
     subst c13
     rw [if_neg (show ¬ (false = true) by decide)] at H
     obtain rfl := Option.some.inj H
     obtain ⟨hcz16_0, hcz16_1, hfz16_0, hfz16_1⟩ := cells2 BK104.out
     go_wp2_with (first | ((with_reducible refine gate_callee (f := 50) rfl ?_); refine goesL_ (some 26) rfl rfl Try.func50 (by kernel_rfl) rfl #[.int .i64 (a0_0.size : Int), .int .i64 1, .int .i64 6] rfl tq ?_; (with_reducible refine (spec_l6In.calls (a0_0.size : Int) 1 6 false _ A12.out).mono ?_); rintro e w' ⟨rfl, ⟨nd, rfl⟩⟩; refine ⟨_, rfl, ?_⟩))
     go_ret
     exact ⟨by first | rfl | (simp [errW_none, errW_some] <;> rfl) | (simp [*, errW_none, errW_some] <;> rfl), zb⟩

end Go.Proofs.Ytkihdohphddjaaa.G

namespace Go.Proofs.Ytkihdohphddjaaa.G
open Go.RowKit Go.Proofs.YtkihdohphddjaaaW.PrintWords Go.Proofs.YtkihdohphddjaaaW.PrintLast Go.Proofs.YtkihdohphddjaaaW.PrintMore
attribute [local go_sem] max2_int min2_int max_two min_two max_three min_three max_four min_four   -- for this text's walks alone
set_option linter.unusedVariables false
set_option linter.unusedSimpArgs false

def spec_GroupsValid.l0 : Nat → List (S25) → Int → Option (Bool)
 | 0, _, _ => none
 | k + 1, x0, x3 => if x3 < (x0.length : Int) then (if 0 ≤ x3 then ((spec_l32Group.f k ((rd_T25 x0 x3).f0) ((rd_T25 x0 x3).f1)).bind fun t108 => (if t108 = true then (if x3 > 0 then (if 0 ≤ (wrap64 (x3 - 1)) then (if (wrap64 (x3 - 1)) < (x0.length : Int) then (if ((Op.bytesLess (((rd_T25 x0 (wrap64 (x3 - 1))).f0).toList) (((rd_T25 x0 x3).f0).toList)) = true) then (spec_GroupsValid.l0 k x0 (wrap64 (x3 + 1))) else (some false)) else (none)) else (none)) else (spec_GroupsValid.l0 k x0 (wrap64 (x3 + 1)))) else (some false))) else (none)) else (some (decide ((x0.length : Int) ≤ 8)))
def spec_GroupsValid.f (k : Nat) (l0 : List (S25)) : Option (Bool) := spec_GroupsValid.l0 k l0 0
def spec_GroupsValid.T4 : Bool × List (List Nat × List Nat) := (true, [([], []), ([], []), ([0, 1], [0, 1]), ([2], [2]), ([3], [3]), ([4], [4]), ([5, 4], [5]), ([6], [6]), ([7, 6], [6, 7]), ([8, 6, 6], [6, 8]), ([9], [9]), ([9], [9]), ([11, 9], [9, 11]), ([10, 12, 9], [9, 10, 12]), ([13, 9], [9, 13]), ([14, 9], [9, 14]), ([9], [9]), ([9], [9]), ([16, 17, 9], [9, 16, 17]), ([18, 9], [9, 18]), ([19, 9], [9, 19]), ([15, 20, 9], [9, 15, 20]), ([9, 21, 6], [6, 9, 21]), ([6, 22], [6, 22])])
def spec_GroupsValid.B4 : List Nat := [0, 0, 3, 7, 15, 31, 63, 127, 255, 511, 1023, 1023, 3071, 8191, 16383, 32767, 1023, 1023, 197631, 459775, 984063, 2097151, 4194303, 8388607]
theorem spec_GroupsValid.tab4 : rtab .any (opsOf Try.f32 4) = spec_GroupsValid.T4 := by kernel_rfl
theorem spec_GroupsValid.bits4 : waitsOk spec_GroupsValid.T4.2 spec_GroupsValid.B4 = true := by kernel_rfl
set_option maxHeartbeats 8000000 in
set_option maxRecDepth 100000 in
theorem spec_GroupsValid.calls (k : Nat) (A0 : Option Addr) (c0 : Nat) (l0 : List (S25)) (r : Bool) (w : World) (hr0 : Kd.C k25 w A0 l0.length l0) (hc0 : l0.length ≤ c0) (h : spec_GroupsValid.f k l0 = some r) :
  Calls Try.prog 32 #[.slice A0 l0.length c0] w fun e w' => e = .returned (.bool r) ∧ Below w.heap.size w w' := by
 have hu25 := Try.underlying25
 have HR0 := Aside0.mk hr0
 have HC0 := Aside0.mk hc0
 clear hr0 hc0
 have HB := Aside0.mk (Below.refl w.heap.size w)
 have H : (spec_GroupsValid.l0 k l0 0) = some r := h
 clear h
 have H' := Aside0.mk H
 clear H
 go_enter Try.func32, Try.ntmps32
 go_wp2
 go_loopg [3] k (fun kq v3 w' => ∃ (x3_1 : Int), v3 = .int .i64 x3_1 ∧ Aside0 (spec_GroupsValid.l0 kq l0 x3_1 = some r) ∧ Aside0 (kq ≤ k) ∧ Aside0 (Below w.heap.size w w'))
 case atStart => exact ⟨(0), tr, H', ⟨Nat.le_refl _⟩, ⟨zb⟩⟩
 case round =>
  clear H'
  obtain ⟨x3_1, rfl, HA, HK1, HB⟩ := hrel
  cases gk with
  | zero => exact absurd HA.out (by simp [spec_GroupsValid.l0])
  | succ k1 =>
   have H := HA.out
   clear HA
   simp only [spec_GroupsValid.l0] at H
   by_cases c2 : x3_1 < (l0.length : Int)
   ·rw [if_pos c2] at H
    have c2b0 : decide (x3_1 < (l0.length : Int)) = true := decide_eq_true c2
    clear c2
    by_cases c3 : 0 ≤ x3_1
    ·rw [if_pos c3] at H
     have c3b0 : decide (0 ≤ x3_1) = true := decide_eq_true c3
     clear c3
     replace H := tbe H
     obtain ⟨t108, A4, H⟩ := H
     by_cases c5 : t108 = true
     ·subst c5
      rw [if_pos rfl] at H
      by_cases c6 : x3_1 > 0
      ·rw [if_pos c6] at H
       have c6b0 : decide (0 < x3_1) = true := decide_eq_true c6
       clear c6
       obtain ⟨ji7, hji7⟩ : ∃ j_ : Int, (wrap64 (x3_1 - 1)) = j_ := ⟨_, rfl⟩
       replace H : (if 0 ≤ (ji7) then (if (ji7) < (l0.length : Int) then (if ((Op.bytesLess (((rd_T25 l0 (ji7)).f0).toList) (((rd_T25 l0 x3_1).f0).toList)) = true) then (spec_GroupsValid.l0 k1 l0 (wrap64 (x3_1 + 1))) else (some false)) else (none)) else (none)) = some r := by first | (rw [hji7] at H; exact H) | (simp only [hji7] at H ⊢; exact H)
       (try rw [hji7] at A4)
       have hji7w : (IntKind.i64.wrap (x3_1 - 1)) = ji7 := (i64_w _).trans hji7
       by_cases c8 : 0 ≤ (ji7)
       ·rw [if_pos c8] at H
        have c8b0 : decide (0 ≤ (ji7)) = true := decide_eq_true c8
        clear c8
        by_cases c9 : (ji7) < (l0.length : Int)
        ·rw [if_pos c9] at H
         have c9b0 : decide ((ji7) < (l0.length : Int)) = true := decide_eq_true c9
         clear c9
         by_cases c10 : ((Op.bytesLess (((rd_T25 l0 (ji7)).f0).toList) (((rd_T25 l0 x3_1).f0).toList)) = true)
         ·rw [if_pos c10] at H
          have c10b0 : (Op.bytesLess (((rd_T25 l0 (ji7)).f0).toList) (((rd_T25 l0 x3_1).f0).toList)) = true := c10
          clear c10
          have H' := Aside0.mk H
          clear H
          try go_wp2
          replace HB := Aside0.mk (below_drew1 HB.out)
          have p107 : 0 ≤ (x3_1 : Int) := td
          have q107 : x3_1 < (l0.length : Int) := td
          obtain ⟨ad107, e107, hx107_0, hx107_1⟩ := at_T25 HR0.out x3_1 p107 q107
          have hw107_1 := hx107_1
          have hw107_0 := hx107_0
          cases e107
          replace hx107_0 := tcl HB hx107_0
          replace hx107_1 := tcl HB hx107_1
          replace p107 := eq_true p107
          replace q107 := eq_true q107
          have p109 : 0 ≤ ((ji7) : Int) := td
          have q109 : (ji7) < (l0.length : Int) := td
          obtain ⟨ad109, e109, hx109_0, hx109_1⟩ := at_T25 HR0.out (ji7) p109 q109
          have hw109_1 := hx109_1
          have hw109_0 := hx109_0
          obtain rfl : ad107 = ad109 := (by injection e109)
          replace hx109_0 := tcl HB hx109_0
          replace hx109_1 := tcl HB hx109_1
          replace p109 := eq_true p109
          replace q109 := eq_true q109
          have p110 : 0 ≤ (x3_1 : Int) := td
          have q110 : x3_1 < (l0.length : Int) := td
          obtain ⟨ad110, e110, hx110_0, hx110_1⟩ := at_T25 HR0.out x3_1 p110 q110
          have hw110_1 := hx110_1
          have hw110_0 := hx110_0
          obtain rfl : ad107 = ad110 := (by injection e110)
          replace hx110_0 := tcl HB hx110_0
          replace hx110_1 := tcl HB hx110_1
          replace p110 := eq_true p110
          replace q110 := eq_true q110
          refine start_ (n := 24) (S := fun w' => w'.cell? (ad107.add ((x3_1).toNat * 2)) = some (.string ((rd_T25 l0 x3_1).f0)) ∧ w'.cell? ⟨(ad107.add ((x3_1).toNat * 2)).block, (ad107.add ((x3_1).toNat * 2)).off + 1, none⟩ = some (.int .i64 ((rd_T25 l0 x3_1).f1)) ∧ w'.cell? (ad107.add (((ji7)).toNat * 2)) = some (.string ((rd_T25 l0 (ji7)).f0)) ∧ w'.cell? ⟨(ad107.add (((ji7)).toNat * 2)).block, (ad107.add (((ji7)).toNat * 2)).off + 1, none⟩ = some (.int .i64 ((rd_T25 l0 (ji7)).f1)) ∧ w'.cell? (ad107.add ((x3_1).toNat * 2)) = some (.string ((rd_T25 l0 x3_1).f0)) ∧ w'.cell? ⟨(ad107.add ((x3_1).toNat * 2)).block, (ad107.add ((x3_1).toNat * 2)).off + 1, none⟩ = some (.int .i64 ((rd_T25 l0 x3_1).f1))) (ds := []) #[false, false, false, false, false, false, false, false, false, false, false, false, false, false, false, false, false, false, false, false, false, false, false, false] (by kernel_rfl) rfl rfl ⟨(tcl HB hw107_0), (tcl HB hw107_1), (tcl HB hw109_0), (tcl HB hw109_1), (tcl HB hw110_0), (tcl HB hw110_1)⟩ (fun hHeld => ?_); refine with_tabW spec_GroupsValid.tab4 spec_GroupsValid.bits4 (fun HT_ HW_ => ?_)
          generalize wr.drew = w11 at HB hx107_0 hx107_1 hx109_0 hx109_1 hx110_0 hx110_1 hHeld ⊢
          refine tpu 0 (some 10) #[true, false, false, false, false, false, false, false, false, false, false, false, false, false, false, false, false, false, false, false, false, false, false, false] ?_
          refine tpu 1 (some 11) #[true, true, false, false, false, false, false, false, false, false, false, false, false, false, false, false, false, false, false, false, false, false, false, false] ?_
          refine tpu 2 (some 12) #[true, true, true, false, false, false, false, false, false, false, false, false, false, false, false, false, false, false, false, false, false, false, false, false] ?_
          refine tta 3 (some 13) #[true, true, true, true, false, false, false, false, false, false, false, false, false, false, false, false, false, false, false, false, false, false, false, false] hHeld ?_ (hy := by rintro w' ⟨s0, s1, s2, s3, s4, s5⟩; go_simp; with_reducible rfl)
          refine one_ (i := 4) (N := some 14) #[true, true, true, true, true, false, false, false, false, false, false, false, false, false, false, false, false, false, false, false, false, false, false, false] rfl rfl (one_of HT_.out (by kernel_rfl)) (by decide) (fun K hK => ?_)
          refine goes_ Try.func33 (by kernel_rfl) rfl #[.agg #[.string ((rd_T25 l0 x3_1).f0), .int .i64 ((rd_T25 l0 x3_1).f1)]] (by rfl) rfl rfl tq ?_
          with_reducible refine (spec_l32Group.calls k1 ((rd_T25 l0 x3_1).f0) ((rd_T25 l0 x3_1).f1) true _ A4.out).mono ?_
          rintro e w12 ⟨rfl, hb⟩
          refine ⟨_, rfl, ?_⟩
          replace HB := tBs HB hb
          (try clear hb)
          (try clear hb2)
          (try clear hk)
          (try clear hi)
          refine hK.out _ _ ⟨(tcl HB hw107_0), (tcl HB hw107_1), (tcl HB hw109_0), (tcl HB hw109_1), (tcl HB hw110_0), (tcl HB hw110_1)⟩ (fun hHeld => ?_)
          clear hK K
          refine tnm (some 14) ?_
          refine tpu 5 (some 15) #[true, true, true, true, true, true, false, false, false, false, false, false, false, false, false, false, false, false, false, false, false, false, false, false] ?_
          refine tpu 6 (some 16) #[true, true, true, true, true, true, true, false, false, false, false, false, false, false, false, false, false, false, false, false, false, false, false, false] ?_
          refine tpu 7 (some 17) #[true, true, true, true, true, true, true, true, false, false, false, false, false, false, false, false, false, false, false, false, false, false, false, false] ?_
          refine tpu 8 (some 18) #[true, true, true, true, true, true, true, true, true, false, false, false, false, false, false, false, false, false, false, false, false, false, false, false] ?_
          refine tpu 9 (some 19) #[true, true, true, true, true, true, true, true, true, true, false, false, false, false, false, false, false, false, false, false, false, false, false, false] ?_
          refine tpu 10 (some 20) #[true, true, true, true, true, true, true, true, true, true, true, false, false, false, false, false, false, false, false, false, false, false, false, false] ?_
          refine tpu 11 (some 21) #[true, true, true, true, true, true, true, true, true, true, true, true, false, false, false, false, false, false, false, false, false, false, false, false] ?_
          refine tpu 12 (some 22) #[true, true, true, true, true, true, true, true, true, true, true, true, true, false, false, false, false, false, false, false, false, false, false, false] ?_
          refine tpu 13 (some 23) #[true, true, true, true, true, true, true, true, true, true, true, true, true, true, false, false, false, false, false, false, false, false, false, false] ?_
          refine tpu 14 (some 24) #[true, true, true, true, true, true, true, true, true, true, true, true, true, true, true, false, false, false, false, false, false, false, false, false] ?_
          refine tpu 16 (some 26) #[true, true, true, true, true, true, true, true, true, true, true, true, true, true, true, false, true, false, false, false, false, false, false, false] ?_
          refine tpu 17 (some 27) #[true, true, true, true, true, true, true, true, true, true, true, true, true, true, true, false, true, true, false, false, false, false, false, false] ?_
          refine tpu 18 (some 28) #[true, true, true, true, true, true, true, true, true, true, true, true, true, true, true, false, true, true, true, false, false, false, false, false] ?_
          refine tpu 19 (some 29) #[true, true, true, true, true, true, true, true, true, true, true, true, true, true, true, false, true, true, true, true, false, false, false, false] ?_
          refine tta 15 (some 25) #[true, true, true, true, true, true, true, true, true, true, true, true, true, true, true, true, true, true, true, true, false, false, false, false] hHeld ?_ (hy := by rintro w' ⟨s0, s1, s2, s3, s4, s5⟩; go_simp; with_reducible rfl)
          refine tta 20 (some 30) #[true, true, true, true, true, true, true, true, true, true, true, true, true, true, true, true, true, true, true, true, true, false, false, false] hHeld ?_ (hy := by rintro w' ⟨s0, s1, s2, s3, s4, s5⟩; go_simp; with_reducible rfl)
          refine tpu 21 (some 31) #[true, true, true, true, true, true, true, true, true, true, true, true, true, true, true, true, true, true, true, true, true, true, false, false] ?_
          refine tpu 22 (some 32) #[true, true, true, true, true, true, true, true, true, true, true, true, true, true, true, true, true, true, true, true, true, true, true, false] ?_
          refine tpu 23 (some 33) #[true, true, true, true, true, true, true, true, true, true, true, true, true, true, true, true, true, true, true, true, true, true, true, true] ?_
          refine done_ (done_of HT_.out (by kernel_rfl)) ?_
          try go_wp2
          go_roundg k1
          case measure => have := HK1.out; omega
          case rel => exact ⟨(wrap64 (x3_1 + 1)), tr, H', ⟨by have := HK1.out; omega⟩, ⟨zb⟩⟩
         ·rw [if_neg c10] at H
          have c10b0 : (Op.bytesLess (((rd_T25 l0 (ji7)).f0).toList) (((rd_T25 l0 x3_1).f0).toList)) = false := by simpa using c10
          clear c10
          obtain rfl := Option.some.inj H
          try go_wp2
          replace HB := Aside0.mk (below_drew1 HB.out)
          have p107 : 0 ≤ (x3_1 : Int) := td
          have q107 : x3_1 < (l0.length : Int) := td
          obtain ⟨ad107, e107, hx107_0, hx107_1⟩ := at_T25 HR0.out x3_1 p107 q107
          have hw107_1 := hx107_1
          have hw107_0 := hx107_0
          cases e107
          replace hx107_0 := tcl HB hx107_0
          replace hx107_1 := tcl HB hx107_1
          replace p107 := eq_true p107
          replace q107 := eq_true q107
          have p109 : 0 ≤ ((ji7) : Int) := td
          have q109 : (ji7) < (l0.length : Int) := td
          obtain ⟨ad109, e109, hx109_0, hx109_1⟩ := at_T25 HR0.out (ji7) p109 q109
          have hw109_1 := hx109_1
          have hw109_0 := hx109_0
          obtain rfl : ad107 = ad109 := (by injection e109)
          replace hx109_0 := tcl HB hx109_0
          replace hx109_1 := tcl HB hx109_1
          replace p109 := eq_true p109
          replace q109 := eq_true q109
          have p110 : 0 ≤ (x3_1 : Int) := td
          have q110 : x3_1 < (l0.length : Int) := td
          obtain ⟨ad110, e110, hx110_0, hx110_1⟩ := at_T25 HR0.out x3_1 p110 q110
          have hw110_1 := hx110_1
          have hw110_0 := hx110_0
          obtain rfl : ad107 = ad110 := (by injection e110)
          replace hx110_0 := tcl HB hx110_0
          replace hx110_1 := tcl HB hx110_1
          replace p110 := eq_true p110
          replace q110 := eq_true q110
          refine start_ (n := 24) (S := fun w' => w'.cell? (ad107.add ((x3_1).toNat * 2)) = some (.string ((rd_T25 l0 x3_1).f0)) ∧ w'.cell? ⟨(ad107.add ((x3_1).toNat * 2)).block, (ad107.add ((x3_1).toNat * 2)).off + 1, none⟩ = some (.int .i64 ((rd_T25 l0 x3_1).f1)) ∧ w'.cell? (ad107.add (((ji7)).toNat * 2)) = some (.string ((rd_T25 l0 (ji7)).f0)) ∧ w'.cell? ⟨(ad107.add (((ji7)).toNat * 2)).block, (ad107.add (((ji7)).toNat * 2)).off + 1, none⟩ = some (.int .i64 ((rd_T25 l0 (ji7)).f1)) ∧ w'.cell? (ad107.add ((x3_1).toNat * 2)) = some (.string ((rd_T25 l0 x3_1).f0)) ∧ w'.cell? ⟨(ad107.add ((x3_1).toNat * 2)).block, (ad107.add ((x3_1).toNat * 2)).off + 1, none⟩ = some (.int .i64 ((rd_T25 l0 x3_1).f1))) (ds := []) #[false, false, false, false, false, false, false, false, false, false, false, false, false, false, false, false, false, false, false, false, false, false, false, false] (by kernel_rfl) rfl rfl ⟨(tcl HB hw107_0), (tcl HB hw107_1), (tcl HB hw109_0), (tcl HB hw109_1), (tcl HB hw110_0), (tcl HB hw110_1)⟩ (fun hHeld => ?_); refine with_tabW spec_GroupsValid.tab4 spec_GroupsValid.bits4 (fun HT_ HW_ => ?_)
          generalize wr.drew = w13 at HB hx107_0 hx107_1 hx109_0 hx109_1 hx110_0 hx110_1 hHeld ⊢
          refine tpu 0 (some 10) #[true, false, false, false, false, false, false, false, false, false, false, false, false, false, false, false, false, false, false, false, false, false, false, false] ?_
          refine tpu 1 (some 11) #[true, true, false, false, false, false, false, false, false, false, false, false, false, false, false, false, false, false, false, false, false, false, false, false] ?_
          refine tpu 2 (some 12) #[true, true, true, false, false, false, false, false, false, false, false, false, false, false, false, false, false, false, false, false, false, false, false, false] ?_
          refine tta 3 (some 13) #[true, true, true, true, false, false, false, false, false, false, false, false, false, false, false, false, false, false, false, false, false, false, false, false] hHeld ?_ (hy := by rintro w' ⟨s0, s1, s2, s3, s4, s5⟩; go_simp; with_reducible rfl)
          refine one_ (i := 4) (N := some 14) #[true, true, true, true, true, false, false, false, false, false, false, false, false, false, false, false, false, false, false, false, false, false, false, false] rfl rfl (one_of HT_.out (by kernel_rfl)) (by decide) (fun K hK => ?_)
          refine goes_ Try.func33 (by kernel_rfl) rfl #[.agg #[.string ((rd_T25 l0 x3_1).f0), .int .i64 ((rd_T25 l0 x3_1).f1)]] (by rfl) rfl rfl tq ?_
          with_reducible refine (spec_l32Group.calls k1 ((rd_T25 l0 x3_1).f0) ((rd_T25 l0 x3_1).f1) true _ A4.out).mono ?_
          rintro e w14 ⟨rfl, hb⟩
          refine ⟨_, rfl, ?_⟩
          replace HB := tBs HB hb
          (try clear hb)
          (try clear hb2)
          (try clear hk)
          (try clear hi)
          refine hK.out _ _ ⟨(tcl HB hw107_0), (tcl HB hw107_1), (tcl HB hw109_0), (tcl HB hw109_1), (tcl HB hw110_0), (tcl HB hw110_1)⟩ (fun hHeld => ?_)
          clear hK K
          refine tnm (some 14) ?_
          refine tpu 5 (some 15) #[true, true, true, true, true, true, false, false, false, false, false, false, false, false, false, false, false, false, false, false, false, false, false, false] ?_
          refine tpu 6 (some 16) #[true, true, true, true, true, true, true, false, false, false, false, false, false, false, false, false, false, false, false, false, false, false, false, false] ?_
          refine tpu 7 (some 17) #[true, true, true, true, true, true, true, true, false, false, false, false, false, false, false, false, false, false, false, false, false, false, false, false] ?_
          refine tpu 8 (some 18) #[true, true, true, true, true, true, true, true, true, false, false, false, false, false, false, false, false, false, false, false, false, false, false, false] ?_
          refine tpu 9 (some 19) #[true, true, true, true, true, true, true, true, true, true, false, false, false, false, false, false, false, false, false, false, false, false, false, false] ?_
          refine tpu 10 (some 20) #[true, true, true, true, true, true, true, true, true, true, true, false, false, false, false, false, false, false, false, false, false, false, false, false] ?_
          refine tpu 11 (some 21) #[true, true, true, true, true, true, true, true, true, true, true, true, false, false, false, false, false, false, false, false, false, false, false, false] ?_
          refine tpu 12 (some 22) #[true, true, true, true, true, true, true, true, true, true, true, true, true, false, false, false, false, false, false, false, false, false, false, false] ?_
          refine tpu 13 (some 23) #[true, true, true, true, true, true, true, true, true, true, true, true, true, true, false, false, false, false, false, false, false, false, false, false] ?_
          refine tpu 14 (some 24) #[true, true, true, true, true, true, true, true, true, true, true, true, true, true, true, false, false, false, false, false, false, false, false, false] ?_
          refine tpu 16 (some 26) #[true, true, true, true, true, true, true, true, true, true, true, true, true, true, true, false, true, false, false, false, false, false, false, false] ?_
          refine tpu 17 (some 27) #[true, true, true, true, true, true, true, true, true, true, true, true, true, true, true, false, true, true, false, false, false, false, false, false] ?_
          refine tpu 18 (some 28) #[true, true, true, true, true, true, true, true, true, true, true, true, true, true, true, false, true, true, true, false, false, false, false, false] ?_
          refine tpu 19 (some 29) #[true, true, true, true, true, true, true, true, true, true, true, true, true, true, true, false, true, true, true, true, false, false, false, false] ?_
          refine tta 15 (some 25) #[true, true, true, true, true, true, true, true, true, true, true, true, true, true, true, true, true, true, true, true, false, false, false, false] hHeld ?_ (hy := by rintro w' ⟨s0, s1, s2, s3, s4, s5⟩; go_simp; with_reducible rfl)
          refine tta 20 (some 30) #[true, true, true, true, true, true, true, true, true, true, true, true, true, true, true, true, true, true, true, true, true, false, false, false] hHeld ?_ (hy := by rintro w' ⟨s0, s1, s2, s3, s4, s5⟩; go_simp; with_reducible rfl)
          refine tpu 21 (some 31) #[true, true, true, true, true, true, true, true, true, true, true, true, true, true, true, true, true, true, true, true, true, true, false, false] ?_
          refine tpu 22 (some 32) #[true, true, true, true, true, true, true, true, true, true, true, true, true, true, true, true, true, true, true, true, true, true, true, false] ?_
          refine tpu 23 (some 33) #[true, true, true, true, true, true, true, true, true, true, true, true, true, true, true, true, true, true, true, true, true, true, true, true] ?_
          refine done_ (done_of HT_.out (by kernel_rfl)) ?_
          try go_wp2
          go_ret
          exact ⟨by first | rfl | (simp [errW_none, errW_some] <;> rfl) | (simp only [← hji7]; first | rfl | (simp [errW_none, errW_some] <;> rfl)) | (simp [*, errW_none, errW_some] <;> rfl), zb⟩
        ·rw [if_neg c9] at H
         exact absurd H (by simp)
       ·rw [if_neg c8] at H
        exact absurd H (by simp)
      ·rw [if_neg c6] at H
       have c6b0 : decide (0 < x3_1) = false := decide_eq_false c6
       clear c6
       have H' := Aside0.mk H
       clear H
       try go_wp2
       replace HB := Aside0.mk (below_drew1 HB.out)
       have p107 : 0 ≤ (x3_1 : Int) := td
       have q107 : x3_1 < (l0.length : Int) := td
       obtain ⟨ad107, e107, hx107_0, hx107_1⟩ := at_T25 HR0.out x3_1 p107 q107
       have hw107_1 := hx107_1
       have hw107_0 := hx107_0
       cases e107
       replace hx107_0 := tcl HB hx107_0
       replace hx107_1 := tcl HB hx107_1
       replace p107 := eq_true p107
       replace q107 := eq_true q107
       refine start_ (n := 24) (S := fun w' => w'.cell? (ad107.add ((x3_1).toNat * 2)) = some (.string ((rd_T25 l0 x3_1).f0)) ∧ w'.cell? ⟨(ad107.add ((x3_1).toNat * 2)).block, (ad107.add ((x3_1).toNat * 2)).off + 1, none⟩ = some (.int .i64 ((rd_T25 l0 x3_1).f1))) (ds := []) #[false, false, false, false, false, false, false, false, false, false, false, false, false, false, false, false, false, false, false, false, false, false, false, false] (by kernel_rfl) rfl rfl ⟨(tcl HB hw107_0), (tcl HB hw107_1)⟩ (fun hHeld => ?_); refine with_tabW spec_GroupsValid.tab4 spec_GroupsValid.bits4 (fun HT_ HW_ => ?_)
       generalize wr.drew = w15 at HB hx107_0 hx107_1 hHeld ⊢
       refine tpu 0 (some 10) #[true, false, false, false, false, false, false, false, false, false, false, false, false, false, false, false, false, false, false, false, false, false, false, false] ?_
       refine tpu 1 (some 11) #[true, true, false, false, false, false, false, false, false, false, false, false, false, false, false, false, false, false, false, false, false, false, false, false] ?_
       refine tpu 2 (some 12) #[true, true, true, false, false, false, false, false, false, false, false, false, false, false, false, false, false, false, false, false, false, false, false, false] ?_
       refine tta 3 (some 13) #[true, true, true, true, false, false, false, false, false, false, false, false, false, false, false, false, false, false, false, false, false, false, false, false] hHeld ?_ (hy := by rintro w' ⟨s0, s1⟩; go_simp; with_reducible rfl)
       refine one_ (i := 4) (N := some 14) #[true, true, true, true, true, false, false, false, false, false, false, false, false, false, false, false, false, false, false, false, false, false, false, false] rfl rfl (one_of HT_.out (by kernel_rfl)) (by decide) (fun K hK => ?_)
       refine goes_ Try.func33 (by kernel_rfl) rfl #[.agg #[.string ((rd_T25 l0 x3_1).f0), .int .i64 ((rd_T25 l0 x3_1).f1)]] (by rfl) rfl rfl tq ?_
       with_reducible refine (spec_l32Group.calls k1 ((rd_T25 l0 x3_1).f0) ((rd_T25 l0 x3_1).f1) true _ A4.out).mono ?_
       rintro e w16 ⟨rfl, hb⟩
       refine ⟨_, rfl, ?_⟩
       replace HB := tBs HB hb
       (try clear hb)
       (try clear hb2)
       (try clear hk)
       (try clear hi)
       refine hK.out _ _ ⟨(tcl HB hw107_0), (tcl HB hw107_1)⟩ (fun hHeld => ?_)
       clear hK K
       refine tnm (some 14) ?_
       refine tpu 5 (some 15) #[true, true, true, true, true, true, false, false, false, false, false, false, false, false, false, false, false, false, false, false, false, false, false, false] ?_
       refine tpu 6 (some 16) #[true, true, true, true, true, true, true, false, false, false, false, false, false, false, false, false, false, false, false, false, false, false, false, false] ?_
       refine tpu 7 (some 17) #[true, true, true, true, true, true, true, true, false, false, false, false, false, false, false, false, false, false, false, false, false, false, false, false] ?_
       refine tpu 8 (some 18) #[true, true, true, true, true, true, true, true, true, false, false, false, false, false, false, false, false, false, false, false, false, false, false, false] ?_
       refine tpu 9 (some 19) #[true, true, true, true, true, true, true, true, true, true, false, false, false, false, false, false, false, false, false, false, false, false, false, false] ?_
       refine pure_ (i := 10) (N := some 20) (v := undef) (a' := ?_) #[true, true, true, true, true, true, true, true, true, true, true, false, false, false, false, false, false, false, false, false, false, false, false, false] rfl rfl (any_of HT_.out (by kernel_rfl)) (fun _ _ _ h => h) (Or.inr ⟨by rfl, rfl⟩) ?_ ?_
       rotate_left
       ·simp only [Act.put, List.setIfInBounds_toArray, List.set_cons_zero, List.set_cons_succ, i64_w, i32_w]
        rfl
       refine pure_ (i := 11) (N := some 21) (v := undef) (a' := ?_) #[true, true, true, true, true, true, true, true, true, true, true, true, false, false, false, false, false, false, false, false, false, false, false, false] rfl rfl (any_of HT_.out (by kernel_rfl)) (fun _ _ _ h => h) (Or.inr ⟨by rfl, rfl⟩) ?_ ?_
       rotate_left
       ·simp only [Act.put, List.setIfInBounds_toArray, List.set_cons_zero, List.set_cons_succ, i64_w, i32_w]
        rfl
       refine pure_ (i := 12) (N := some 22) (v := undef) (a' := ?_) #[true, true, true, true, true, true, true, true, true, true, true, true, true, false, false, false, false, false, false, false, false, false, false, false] rfl rfl (any_of HT_.out (by kernel_rfl)) (fun _ _ _ h => h) (Or.inr ⟨by rfl, rfl⟩) ?_ ?_
       rotate_left
       ·simp only [Act.put, List.setIfInBounds_toArray, List.set_cons_zero, List.set_cons_succ, i64_w, i32_w]
        rfl
       refine pure_ (i := 13) (N := some 23) (v := undef) (a' := ?_) #[true, true, true, true, true, true, true, true, true, true, true, true, true, true, false, false, false, false, false, false, false, false, false, false] rfl rfl (any_of HT_.out (by kernel_rfl)) (fun _ _ _ h => h) (Or.inr ⟨by rfl, rfl⟩) ?_ ?_
       rotate_left
       ·simp only [Act.put, List.setIfInBounds_toArray, List.set_cons_zero, List.set_cons_succ, i64_w, i32_w]
        rfl
       refine pure_ (i := 14) (N := some 24) (v := undef) (a' := ?_) #[true, true, true, true, true, true, true, true, true, true, true, true, true, true, true, false, false, false, false, false, false, false, false, false] rfl rfl (any_of HT_.out (by kernel_rfl)) (fun _ _ _ h => h) (Or.inr ⟨by rfl, rfl⟩) ?_ ?_
       rotate_left
       ·simp only [Act.put, List.setIfInBounds_toArray, List.set_cons_zero, List.set_cons_succ, i64_w, i32_w]
        rfl
       refine pure_ (i := 15) (N := some 25) (v := undef) (a' := ?_) #[true, true, true, true, true, true, true, true, true, true, true, true, true, true, true, true, false, false, false, false, false, false, false, false] rfl rfl (any_of HT_.out (by kernel_rfl)) (fun _ _ _ h => h) (Or.inr ⟨by rfl, rfl⟩) ?_ ?_
       rotate_left
       ·simp only [Act.put, List.setIfInBounds_toArray, List.set_cons_zero, List.set_cons_succ, i64_w, i32_w]
        rfl
       refine pure_ (i := 16) (N := some 26) (v := undef) (a' := ?_) #[true, true, true, true, true, true, true, true, true, true, true, true, true, true, true, true, true, false, false, false, false, false, false, false] rfl rfl (any_of HT_.out (by kernel_rfl)) (fun _ _ _ h => h) (Or.inr ⟨by rfl, rfl⟩) ?_ ?_
       rotate_left
       ·simp only [Act.put, List.setIfInBounds_toArray, List.set_cons_zero, List.set_cons_succ, i64_w, i32_w]
        rfl
       refine pure_ (i := 17) (N := some 27) (v := undef) (a' := ?_) #[true, true, true, true, true, true, true, true, true, true, true, true, true, true, true, true, true, true, false, false, false, false, false, false] rfl rfl (any_of HT_.out (by kernel_rfl)) (fun _ _ _ h => h) (Or.inr ⟨by rfl, rfl⟩) ?_ ?_
       rotate_left
       ·simp only [Act.put, List.setIfInBounds_toArray, List.set_cons_zero, List.set_cons_succ, i64_w, i32_w]
        rfl
       refine pure_ (i := 18) (N := some 28) (v := undef) (a' := ?_) #[true, true, true, true, true, true, true, true, true, true, true, true, true, true, true, true, true, true, true, false, false, false, false, false] rfl rfl (any_of HT_.out (by kernel_rfl)) (fun _ _ _ h => h) (Or.inr ⟨by rfl, rfl⟩) ?_ ?_
       rotate_left
       ·simp only [Act.put, List.setIfInBounds_toArray, List.set_cons_zero, List.set_cons_succ, i64_w, i32_w]
        rfl
       refine pure_ (i := 19) (N := some 29) (v := undef) (a' := ?_) #[true, true, true, true, true, true, true, true, true, true, true, true, true, true, true, true, true, true, true, true, false, false, false, false] rfl rfl (any_of HT_.out (by kernel_rfl)) (fun _ _ _ h => h) (Or.inr ⟨by rfl, rfl⟩) ?_ ?_
       rotate_left
       ·simp only [Act.put, List.setIfInBounds_toArray, List.set_cons_zero, List.set_cons_succ, i64_w, i32_w]
        rfl
       refine pure_ (i := 20) (N := some 30) (v := undef) (a' := ?_) #[true, true, true, true, true, true, true, true, true, true, true, true, true, true, true, true, true, true, true, true, true, false, false, false] rfl rfl (any_of HT_.out (by kernel_rfl)) (fun _ _ _ h => h) (Or.inr ⟨by rfl, rfl⟩) ?_ ?_
       rotate_left
       ·simp only [Act.put, List.setIfInBounds_toArray, List.set_cons_zero, List.set_cons_succ, i64_w, i32_w]
        rfl
       refine pure_ (i := 21) (N := some 31) (v := undef) (a' := ?_) #[true, true, true, true, true, true, true, true, true, true, true, true, true, true, true, true, true, true, true, true, true, true, false, false] rfl rfl (any_of HT_.out (by kernel_rfl)) (fun _ _ _ h => h) (Or.inr ⟨by rfl, rfl⟩) ?_ ?_
       rotate_left
       ·simp only [Act.put, List.setIfInBounds_toArray, List.set_cons_zero, List.set_cons_succ, i64_w, i32_w]
        rfl
       refine tpu 22 (some 32) #[true, true, true, true, true, true, true, true, true, true, true, true, true, true, true, true, true, true, true, true, true, true, true, false] ?_
       refine tpu 23 (some 33) #[true, true, true, true, true, true, true, true, true, true, true, true, true, true, true, true, true, true, true, true, true, true, true, true] ?_
       refine done_ (done_of HT_.out (by kernel_rfl)) ?_
       try go_wp2
       go_roundg k1
       case measure => have := HK1.out; omega
       case rel => exact ⟨(wrap64 (x3_1 + 1)), tr, H', ⟨by have := HK1.out; omega⟩, ⟨zb⟩⟩
     ·replace c5 := Bool.eq_false_iff.mpr c5
      subst c5
      rw [if_neg (show ¬ (false = true) by decide)] at H
      obtain rfl := Option.some.inj H
      try go_wp2
      replace HB := Aside0.mk (below_drew1 HB.out)
      have p107 : 0 ≤ (x3_1 : Int) := td
      have q107 : x3_1 < (l0.length : Int) := td
      obtain ⟨ad107, e107, hx107_0, hx107_1⟩ := at_T25 HR0.out x3_1 p107 q107
      have hw107_1 := hx107_1
      have hw107_0 := hx107_0
      cases e107
      replace hx107_0 := tcl HB hx107_0
      replace hx107_1 := tcl HB hx107_1
      replace p107 := eq_true p107
      replace q107 := eq_true q107
      refine start_ (n := 24) (S := fun w' => w'.cell? (ad107.add ((x3_1).toNat * 2)) = some (.string ((rd_T25 l0 x3_1).f0)) ∧ w'.cell? ⟨(ad107.add ((x3_1).toNat * 2)).block, (ad107.add ((x3_1).toNat * 2)).off + 1, none⟩ = some (.int .i64 ((rd_T25 l0 x3_1).f1))) (ds := []) #[false, false, false, false, false, false, false, false, false, false, false, false, false, false, false, false, false, false, false, false, false, false, false, false] (by kernel_rfl) rfl rfl ⟨(tcl HB hw107_0), (tcl HB hw107_1)⟩ (fun hHeld => ?_); refine with_tabW spec_GroupsValid.tab4 spec_GroupsValid.bits4 (fun HT_ HW_ => ?_)
      generalize wr.drew = w17 at HB hx107_0 hx107_1 hHeld ⊢
      refine tpu 0 (some 10) #[true, false, false, false, false, false, false, false, false, false, false, false, false, false, false, false, false, false, false, false, false, false, false, false] ?_
      refine tpu 1 (some 11) #[true, true, false, false, false, false, false, false, false, false, false, false, false, false, false, false, false, false, false, false, false, false, false, false] ?_
      refine tpu 2 (some 12) #[true, true, true, false, false, false, false, false, false, false, false, false, false, false, false, false, false, false, false, false, false, false, false, false] ?_
      refine tta 3 (some 13) #[true, true, true, true, false, false, false, false, false, false, false, false, false, false, false, false, false, false, false, false, false, false, false, false] hHeld ?_ (hy := by rintro w' ⟨s0, s1⟩; go_simp; with_reducible rfl)
      refine one_ (i := 4) (N := some 14) #[true, true, true, true, true, false, false, false, false, false, false, false, false, false, false, false, false, false, false, false, false, false, false, false] rfl rfl (one_of HT_.out (by kernel_rfl)) (by decide) (fun K hK => ?_)
      refine goes_ Try.func33 (by kernel_rfl) rfl #[.agg #[.string ((rd_T25 l0 x3_1).f0), .int .i64 ((rd_T25 l0 x3_1).f1)]] (by rfl) rfl rfl tq ?_
      with_reducible refine (spec_l32Group.calls k1 ((rd_T25 l0 x3_1).f0) ((rd_T25 l0 x3_1).f1) false _ A4.out).mono ?_
      rintro e w18 ⟨rfl, hb⟩
      refine ⟨_, rfl, ?_⟩
      replace HB := tBs HB hb
      (try clear hb)
      (try clear hb2)
      (try clear hk)
      (try clear hi)
      refine hK.out _ _ ⟨(tcl HB hw107_0), (tcl HB hw107_1)⟩ (fun hHeld => ?_)
      clear hK K
      refine tnm (some 14) ?_
      refine tpu 5 (some 15) #[true, true, true, true, true, true, false, false, false, false, false, false, false, false, false, false, false, false, false, false, false, false, false, false] ?_
      refine tpu 6 (some 16) #[true, true, true, true, true, true, true, false, false, false, false, false, false, false, false, false, false, false, false, false, false, false, false, false] ?_
      refine pure_ (i := 7) (N := some 17) (v := undef) (a' := ?_) #[true, true, true, true, true, true, true, true, false, false, false, false, false, false, false, false, false, false, false, false, false, false, false, false] rfl rfl (any_of HT_.out (by kernel_rfl)) (fun _ _ _ h => h) (Or.inr ⟨by rfl, rfl⟩) ?_ ?_
      rotate_left
      ·simp only [Act.put, List.setIfInBounds_toArray, List.set_cons_zero, List.set_cons_succ, i64_w, i32_w]
       rfl
      refine pure_ (i := 8) (N := some 18) (v := undef) (a' := ?_) #[true, true, true, true, true, true, true, true, true, false, false, false, false, false, false, false, false, false, false, false, false, false, false, false] rfl rfl (any_of HT_.out (by kernel_rfl)) (fun _ _ _ h => h) (Or.inr ⟨by rfl, rfl⟩) ?_ ?_
      rotate_left
      ·simp only [Act.put, List.setIfInBounds_toArray, List.set_cons_zero, List.set_cons_succ, i64_w, i32_w]
       rfl
      refine pure_ (i := 9) (N := some 19) (v := undef) (a' := ?_) #[true, true, true, true, true, true, true, true, true, true, false, false, false, false, false, false, false, false, false, false, false, false, false, false] rfl rfl (any_of HT_.out (by kernel_rfl)) (fun _ _ _ h => h) (Or.inr ⟨by rfl, rfl⟩) ?_ ?_
      rotate_left
      ·simp only [Act.put, List.setIfInBounds_toArray, List.set_cons_zero, List.set_cons_succ, i64_w, i32_w]
       rfl
      refine pure_ (i := 10) (N := some 20) (v := undef) (a' := ?_) #[true, true, true, true, true, true, true, true, true, true, true, false, false, false, false, false, false, false, false, false, false, false, false, false] rfl rfl (any_of HT_.out (by kernel_rfl)) (fun _ _ _ h => h) (Or.inr ⟨by rfl, rfl⟩) ?_ ?_
      rotate_left
      ·simp only [Act.put, List.setIfInBounds_toArray, List.set_cons_zero, List.set_cons_succ, i64_w, i32_w]
       rfl
      refine pure_ (i := 11) (N := some 21) (v := undef) (a' := ?_) #[true, true, true, true, true, true, true, true, true, true, true, true, false, false, false, false, false, false, false, false, false, false, false, false] rfl rfl (any_of HT_.out (by kernel_rfl)) (fun _ _ _ h => h) (Or.inr ⟨by rfl, rfl⟩) ?_ ?_
      rotate_left
      ·simp only [Act.put, List.setIfInBounds_toArray, List.set_cons_zero, List.set_cons_succ, i64_w, i32_w]
       rfl
      refine pure_ (i := 12) (N := some 22) (v := undef) (a' := ?_) #[true, true, true, true, true, true, true, true, true, true, true, true, true, false, false, false, false, false, false, false, false, false, false, false] rfl rfl (any_of HT_.out (by kernel_rfl)) (fun _ _ _ h => h) (Or.inr ⟨by rfl, rfl⟩) ?_ ?_
      rotate_left
      ·simp only [Act.put, List.setIfInBounds_toArray, List.set_cons_zero, List.set_cons_succ, i64_w, i32_w]
       rfl
      refine pure_ (i := 13) (N := some 23) (v := undef) (a' := ?_) #[true, true, true, true, true, true, true, true, true, true, true, true, true, true, false, false, false, false, false, false, false, false, false, false] rfl rfl (any_of HT_.out (by kernel_rfl)) (fun _ _ _ h => h) (Or.inr ⟨by rfl, rfl⟩) ?_ ?_
      rotate_left
      ·simp only [Act.put, List.setIfInBounds_toArray, List.set_cons_zero, List.set_cons_succ, i64_w, i32_w]
       rfl
      refine pure_ (i := 14) (N := some 24) (v := undef) (a' := ?_) #[true, true, true, true, true, true, true, true, true, true, true, true, true, true, true, false, false, false, false, false, false, false, false, false] rfl rfl (any_of HT_.out (by kernel_rfl)) (fun _ _ _ h => h) (Or.inr ⟨by rfl, rfl⟩) ?_ ?_
      rotate_left
      ·simp only [Act.put, List.setIfInBounds_toArray, List.set_cons_zero, List.set_cons_succ, i64_w, i32_w]
       rfl
      refine pure_ (i := 15) (N := some 25) (v := undef) (a' := ?_) #[true, true, true, true, true, true, true, true, true, true, true, true, true, true, true, true, false, false, false, false, false, false, false, false] rfl rfl (any_of HT_.out (by kernel_rfl)) (fun _ _ _ h => h) (Or.inr ⟨by rfl, rfl⟩) ?_ ?_
      rotate_left
      ·simp only [Act.put, List.setIfInBounds_toArray, List.set_cons_zero, List.set_cons_succ, i64_w, i32_w]
       rfl
      refine pure_ (i := 16) (N := some 26) (v := undef) (a' := ?_) #[true, true, true, true, true, true, true, true, true, true, true, true, true, true, true, true, true, false, false, false, false, false, false, false] rfl rfl (any_of HT_.out (by kernel_rfl)) (fun _ _ _ h => h) (Or.inr ⟨by rfl, rfl⟩) ?_ ?_
      rotate_left
      ·simp only [Act.put, List.setIfInBounds_toArray, List.set_cons_zero, List.set_cons_succ, i64_w, i32_w]
       rfl
      refine pure_ (i := 17) (N := some 27) (v := undef) (a' := ?_) #[true, true, true, true, true, true, true, true, true, true, true, true, true, true, true, true, true, true, false, false, false, false, false, false] rfl rfl (any_of HT_.out (by kernel_rfl)) (fun _ _ _ h => h) (Or.inr ⟨by rfl, rfl⟩) ?_ ?_
      rotate_left
      ·simp only [Act.put, List.setIfInBounds_toArray, List.set_cons_zero, List.set_cons_succ, i64_w, i32_w]
       rfl
      refine pure_ (i := 18) (N := some 28) (v := undef) (a' := ?_) #[true, true, true, true, true, true, true, true, true, true, true, true, true, true, true, true, true, true, true, false, false, false, false, false] rfl rfl (any_of HT_.out (by kernel_rfl)) (fun _ _ _ h => h) (Or.inr ⟨by rfl, rfl⟩) ?_ ?_
      rotate_left
      ·simp only [Act.put, List.setIfInBounds_toArray, List.set_cons_zero, List.set_cons_succ, i64_w, i32_w]
       rfl
      refine pure_ (i := 19) (N := some 29) (v := undef) (a' := ?_) #[true, true, true, true, true, true, true, true, true, true, true, true, true, true, true, true, true, true, true, true, false, false, false, false] rfl rfl (any_of HT_.out (by kernel_rfl)) (fun _ _ _ h => h) (Or.inr ⟨by rfl, rfl⟩) ?_ ?_
      rotate_left
      ·simp only [Act.put, List.setIfInBounds_toArray, List.set_cons_zero, List.set_cons_succ, i64_w, i32_w]
       rfl
      refine pure_ (i := 20) (N := some 30) (v := undef) (a' := ?_) #[true, true, true, true, true, true, true, true, true, true, true, true, true, true, true, true, true, true, true, true, true, false, false, false] rfl rfl (any_of HT_.out (by kernel_rfl)) (fun _ _ _ h => h) (Or.inr ⟨by rfl, rfl⟩) ?_ ?_
      rotate_left
      ·simp only [Act.put, List.setIfInBounds_toArray, List.set_cons_zero, List.set_cons_succ, i64_w, i32_w]
       rfl
      refine pure_ (i := 21) (N := some 31) (v := undef) (a' := ?_) #[true, true, true, true, true, true, true, true, true, true, true, true, true, true, true, true, true, true, true, true, true, true, false, false] rfl rfl (any_of HT_.out (by kernel_rfl)) (fun _ _ _ h => h) (Or.inr ⟨by rfl, rfl⟩) ?_ ?_
      rotate_left
      ·simp only [Act.put, List.setIfInBounds_toArray, List.set_cons_zero, List.set_cons_succ, i64_w, i32_w]
       rfl
      refine pure_ (i := 22) (N := some 32) (v := undef) (a' := ?_) #[true, true, true, true, true, true, true, true, true, true, true, true, true, true, true, true, true, true, true, true, true, true, true, false] rfl rfl (any_of HT_.out (by kernel_rfl)) (fun _ _ _ h => h) (Or.inr ⟨by rfl, rfl⟩) ?_ ?_
      rotate_left
      ·simp only [Act.put, List.setIfInBounds_toArray, List.set_cons_zero, List.set_cons_succ, i64_w, i32_w]
       rfl
      refine tpu 23 (some 33) #[true, true, true, true, true, true, true, true, true, true, true, true, true, true, true, true, true, true, true, true, true, true, true, true] ?_
      refine done_ (done_of HT_.out (by kernel_rfl)) ?_
      try go_wp2
      go_ret
      exact ⟨by first | rfl | (simp [errW_none, errW_some] <;> rfl) | (simp [*, errW_none, errW_some] <;> rfl), zb⟩
    ·rw [if_neg c3] at H
     exact absurd H (by simp)
   ·rw [if_neg c2] at H
    have c2b0 : decide (x3_1 < (l0.length : Int)) = false := decide_eq_false c2
    clear c2
    obtain rfl := Option.some.inj H
    go_wp2
    go_ret
    exact ⟨by first | rfl | (simp [errW_none, errW_some] <;> rfl) | (simp [*, errW_none, errW_some] <;> rfl), zb⟩

end Go.Proofs.Ytkihdohphddjaaa.G

