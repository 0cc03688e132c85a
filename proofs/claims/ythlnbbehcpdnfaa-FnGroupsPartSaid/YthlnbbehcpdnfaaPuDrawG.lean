/- The groups that are drawn: few, with short names. -/
import Derived.Test.YthlnbbehcpdnfaaPuPut
import Derived.Test.YthlnbbehcpdnfaaPuPick
import Derived.Test.YthlnbbehcpdnfaaGx6
import Derived.Test.YthlnbbehcpdnfaaGx7
namespace Go.Proofs.Ythlnbbehcpdnfaa.Pu
open Go.RowKit Go.Proofs.YthlnbbehcpdnfaaW.PrintWords Go.Proofs.YthlnbbehcpdnfaaW.PrintLast Go.Proofs.Ythlnbbehcpdnfaa.G
set_option linter.unusedVariables false
set_option linter.unusedSimpArgs false
theorem of_ends {b : List Int} (hb : CodeOk b) (p : Int) (l : List ByteArray) (h0 : 0 ≤ p) (h1 : p ≤ 1000000000) (hl : 1 ≤ l.length) (hl2 : l.length ≤ 1000000) :
    EndsIn (fun k => spec_l6Rd_of.f k b p l) (fun r => r.2 = p + 1 ∧ r.1 ∈ l) := by
  unfold spec_l6Rd_of.f
  refine EndsIn.bind (pick_ends hb p (l.length : Int) h0 h1 (by omega)) fun r hr => ?_
  obtain ⟨h2, h3, h4, _⟩ := hr
  have h5 := h4 (by omega)
  simp only [if_pos h3, if_pos h5]
  refine EndsIn.now _ ⟨h2, ?_⟩
  unfold rdOf
  rw [List.getD_eq_getElem?_getD, List.getElem?_eq_getElem (by omega)]
  exact List.getElem_mem _
theorem open_some (l0 : List Int) (hr : ∀ x ∈ l0, 0 ≤ x ∧ x ≤ 255) : ∃ b, spec_l6Open.f l0 = some (b, 0) ∧ CodeOk b := by
  unfold spec_l6Open.f
  by_cases h : (l0.length : Int) > 2000
  · rw [if_pos h, if_pos (by omega)]
    exact ⟨_, rfl, by rw [List.length_take]; omega, fun x hx => hr x (List.mem_of_mem_take hx)⟩
  · rw [if_neg h]
    exact ⟨_, rfl, by omega, hr⟩
/-- What is drawn: at most so many groups, each with a short name and a small number. -/
def DrG (l : List S53) : Prop := l.length ≤ 8 ∧ ∀ g ∈ l, g.f0.size ≤ 7 ∧ 0 ≤ g.f1 ∧ g.f1 ≤ 100
theorem DrG.size {l : List S53} (h : DrG l) : ∀ g ∈ l, g.f0.size ≤ 9223372036854775807 := fun g hg => by have := (h.2 g hg).1; omega
theorem drawG_j {b : List Int} (hb : CodeOk b) (l : List S53) (hl : DrG l) (hl0 : 1 ≤ l.length) (c : Bool) (hc : c = true → 1 ≤ l.length) (p : Int) (h0 : 0 ≤ p) (h1 : p ≤ 900000000) :
    EndsIn (fun k => spec_l92Groups.j1 k l c b p) (fun r => DrG r.1 ∧ p ≤ r.2 ∧ r.2 ≤ p + 10) := by
  refine EndsIn.step (fun k => by rw [spec_l92Groups.j1]) ?_
  cases c
  · simp only [Bool.false_eq_true, if_false]
    exact EndsIn.now _ ⟨hl, by omega, by omega⟩
  · simp only [if_true]
    have hl8 := hl.1
    refine EndsIn.bind (pick_ends hb p (l.length : Int) h0 (by omega) (by omega)) fun r hr => ?_
    obtain ⟨e2, h3, h4, _⟩ := hr
    have h5 := h4 (by omega)
    rw [e2]
    refine EndsIn.bind (of_ends hb (p + 1) _ (by omega) (by omega) (by decide) (by decide)) fun q hq => ?_
    obtain ⟨q2, q1⟩ := hq
    simp only [if_pos h3, if_pos h5]
    refine EndsIn.now _ ⟨⟨by rw [List.length_set]; exact hl8, fun g hg => ?_⟩, by omega, by omega⟩
    rcases List.mem_or_eq_of_mem_set hg with hg | rfl
    · exact hl.2 g hg
    · have hm : rd_T53 l r.1 ∈ l := by
        unfold rd_T53
        rw [List.getD_eq_getElem?_getD, List.getElem?_eq_getElem (by omega)]
        exact List.getElem_mem _
      refine ⟨?_, (hl.2 _ hm).2⟩
      simp only [List.mem_cons, List.not_mem_nil, or_false] at q1
      rcases q1 with q1 | q1 | q1 <;> (show q.1.size ≤ 7; rw [q1]; decide)
theorem drawG_loop {b : List Int} (hb : CodeOk b) (n : Int) (hn : n ≤ 5) : ∀ d (i : Nat) (l : List S53) (p : Int), 5 - i = d → i ≤ 5 → DrG l → 0 ≤ p → p ≤ 100 * (i : Int) + 100 →
    EndsIn (fun k => spec_l92Groups.l0 k l n (i : Int) b p) (fun r => DrG r.1 ∧ p ≤ r.2 ∧ r.2 ≤ 10000) := by
  intro d
  induction d with
  | zero =>
    intro i l p hi hle hl h0 h1
    obtain rfl : i = 5 := by omega
    refine EndsIn.step (fun k => by rw [spec_l92Groups.l0]) ?_
    simp only [if_neg (show ¬ (((5 : Nat) : Int) < n) by omega)]
    by_cases hz : (l.length : Int) > 0
    · simp only [if_pos hz]
      refine EndsIn.bind (pick_ends hb p 24 h0 (by omega) (by omega)) fun r hr => ?_
      rw [hr.1]
      exact (drawG_j hb l hl (by omega) _ (fun _ => by omega) (p + 1) (by omega) (by omega)).mono fun r hr => ⟨hr.1, by omega, by omega⟩
    · simp only [if_neg hz]
      refine EndsIn.step (fun k => by rw [spec_l92Groups.j1]) ?_
      simp only [Bool.false_eq_true, if_false]
      exact EndsIn.now _ ⟨hl, by omega, by omega⟩
  | succ d ih =>
    intro i l p hi hle hl h0 h1
    refine EndsIn.step (fun k => by rw [spec_l92Groups.l0]) ?_
    by_cases hin : (i : Int) < n
    · simp only [if_pos hin]
      refine EndsIn.bind (of_ends hb p _ h0 (by omega) (by decide) (by decide)) fun r hr => ?_
      obtain ⟨r2, r1⟩ := hr
      rw [r2]
      refine EndsIn.bind (pick_ends hb (p + 1) 20 (by omega) (by omega) (by omega)) fun q hq => ?_
      obtain ⟨q2, q3, q4, _⟩ := hq
      have q5 := q4 (by omega)
      have hsz : r.1.size ≤ 7 := by
        simp only [List.mem_cons, List.not_mem_nil, or_false] at r1
        rcases r1 with r1 | r1 | r1 | r1 | r1 | r1 | r1 | r1 <;> (rw [r1]; decide)
      have hev := gPut_ev l ⟨r.1, q.1⟩ (by have := hl.1; omega) hl.size (by show r.1.size ≤ _; omega)
      have hd : DrG (gPut l ⟨r.1, q.1⟩).1 := ⟨gPut_len _ _, fun g hg => by
        rcases gPut_mem hg with rfl | hg
        · exact ⟨hsz, q3, by show q.1 ≤ 100; omega⟩
        · exact hl.2 g hg⟩
      refine EndsIn.bind (P := fun x => x = gPut l ⟨r.1, q.1⟩) ⟨_, hev, rfl⟩ fun x hx => ?_
      subst hx
      rw [q2, w64 (a := (i : Int) + 1) (by omega) (by omega)]
      cases (gPut l ⟨r.1, q.1⟩).2
      · simp only [Bool.false_eq_true, if_false]
        exact (ih (i + 1) l (p + 1 + 1) (by omega) (by omega) hl (by omega) (by omega)).mono fun r hr => ⟨hr.1, by omega, hr.2.2⟩
      · simp only [if_true]
        exact (ih (i + 1) _ (p + 1 + 1) (by omega) (by omega) hd (by omega) (by omega)).mono fun r hr => ⟨hr.1, by omega, hr.2.2⟩
    · simp only [if_neg hin]
      by_cases hz : (l.length : Int) > 0
      · simp only [if_pos hz]
        refine EndsIn.bind (pick_ends hb p 24 h0 (by omega) (by omega)) fun r hr => ?_
        rw [hr.1]
        exact (drawG_j hb l hl (by omega) _ (fun _ => by omega) (p + 1) (by omega) (by omega)).mono fun r hr => ⟨hr.1, by omega, by omega⟩
      · simp only [if_neg hz]
        refine EndsIn.step (fun k => by rw [spec_l92Groups.j1]) ?_
        simp only [Bool.false_eq_true, if_false]
        exact EndsIn.now _ ⟨hl, by omega, by omega⟩
theorem drawGroups_ends {b : List Int} (hb : CodeOk b) : EndsIn (fun k => spec_l92Groups.f k b 0) (fun r => DrG r.1 ∧ 0 ≤ r.2 ∧ r.2 ≤ 10000) := by
  unfold spec_l92Groups.f
  refine EndsIn.bind (pick_ends hb 0 6 (by omega) (by omega) (by omega)) fun r hr => ?_
  obtain ⟨r2, r3, r4, _⟩ := hr
  have r5 := r4 (by omega)
  rw [r2]
  have := drawG_loop hb r.1 (by omega) 5 0 [] (0 + 1) (by omega) (by omega) ⟨by simp, by simp⟩ (by omega) (by omega)
  exact this.mono fun q hq => ⟨hq.1, by omega, hq.2.2⟩
end Go.Proofs.Ythlnbbehcpdnfaa.Pu
