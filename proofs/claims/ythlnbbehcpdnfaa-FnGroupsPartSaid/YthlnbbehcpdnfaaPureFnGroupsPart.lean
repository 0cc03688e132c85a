/- The plain statement of FnGroupsPart. -/
import Derived.Test.YthlnbbehcpdnfaaPuDrawG
import Derived.Test.YthlnbbehcpdnfaaPuPart
import Derived.Test.YthlnbbehcpdnfaaOFnGroupsPart
namespace Go.Proofs.Ythlnbbehcpdnfaa.Pure
open Go.RowKit Go.Proofs.Ythlnbbehcpdnfaa.G Go.Proofs.YthlnbbehcpdnfaaW.PrintWords Go.Proofs.YthlnbbehcpdnfaaW.PrintLast Go.Proofs.Ythlnbbehcpdnfaa.Pu
set_option linter.unusedSimpArgs false
theorem lim2 (a b : List S53) (ha : a.length ≤ 8) (hb : b.length ≤ 8) : ([] : List S53).length + a.length < 5864062014805 ∧ ([] ++ a).length + b.length < 5864062014805 := by
  simp only [List.length_append, List.length_nil]
  omega
theorem part_j1 (l1 : List Int) (l : List S53) (hl : DrG l) (c : Bool) (hcc : c = false → gsOk l = true ∧ l.length ≠ 0) : EndsIn (fun k => laws_FnGroupsPart.j1 k l1 l (gsOk l) (gsOk l) c) (fun x => x = true) := by
  have h8 := hl.1
  refine EndsIn.step (fun k => by rw [laws_FnGroupsPart.j1]) ?_
  cases c
  · obtain ⟨hok, hne⟩ := hcc rfl
    obtain ⟨k, hk, hkl⟩ : ∃ k : Nat, (l1.length : Int) % (l.length : Int) = (k : Int) ∧ k < l.length := by
      refine ⟨l1.length % l.length, by omega, Nat.mod_lt _ (by omega)⟩
    simp only [Bool.false_eq_true, if_false, if_neg (show ¬ (l.length : Int) = 0 by omega), bindS]
    rw [hk]
    simp only [w64 (a := (k : Int) + 1) (by omega) (by omega), if_pos (show (0 : Int) ≤ (k : Int) by omega), if_pos (show (k : Int) ≤ (l.length : Int) by omega), if_pos (show (0 : Int) ≤ (k : Int) + 1 by omega), if_pos (show (k : Int) + 1 ≤ (l.length : Int) by omega),
      Int.toNat_natCast, show ((k : Int) + 1).toNat = k + 1 by omega]
    have m1 := lim2 (l.take k) (l.drop (k + 1)) (by rw [List.length_take]; omega) (by rw [List.length_drop]; omega)
    have m2 := lim2 (l.take (k + 1)) (l.drop k) (by rw [List.length_take]; omega) (by rw [List.length_drop]; omega)
    simp only [if_pos m1.1, if_pos m1.2, if_pos m2.1, if_pos m2.2]
    refine EndsIn.bind (P := fun x => x = gsOk (l.take k ++ l.drop (k + 1))) ⟨_, valid_ev _ (by rw [List.length_append, List.length_append, List.length_take, List.length_drop, List.length_nil]; omega) (fun g hg => hl.size g (by rcases List.mem_append.1 hg with h | h; exact List.mem_of_mem_take h; exact List.mem_of_mem_drop h)), rfl⟩ fun x hx => ?_
    rw [part_less l k hkl hok] at hx
    subst hx
    simp only [if_true]
    refine EndsIn.bind (P := fun x => x = gsOk (l.take (k + 1) ++ l.drop k)) ⟨_, valid_ev _ (by rw [List.length_append, List.length_append, List.length_take, List.length_drop, List.length_nil]; omega) (fun g hg => hl.size g (by rcases List.mem_append.1 hg with h | h; exact List.mem_of_mem_take h; exact List.mem_of_mem_drop h)), rfl⟩ fun x hx => ?_
    rw [part_more l k hkl] at hx
    subst hx
    exact EndsIn.now _ rfl
  · simp only [if_true, beq_self_eq_true]
    exact EndsIn.now _ rfl
theorem part_j0 (l0 l1 : List Int) (hr : ∀ x ∈ l0, 0 ≤ x ∧ x ≤ 255) (c : Bool) : EndsIn (fun k => laws_FnGroupsPart.j0 k l0 l1 c) (fun x => x = true) := by
  refine EndsIn.step (fun k => by rw [laws_FnGroupsPart.j0]) ?_
  cases c
  · simp only [Bool.false_eq_true, if_false]
    obtain ⟨b, hb, hc⟩ := open_some l0 hr
    unfold spec_DrawGroupsValid.f
    simp only [hb, Option.bind_some]
    refine EndsIn.bind (P := DrG) (EndsIn.bind (drawGroups_ends hc) fun r hr => EndsIn.now _ hr.1) fun l hl => ?_
    have h8 := hl.1
    refine EndsIn.bind (P := fun x => x = gsOk l) ⟨_, valid_ev l (by omega) hl.size, rfl⟩ fun x hx => ?_
    refine EndsIn.bind (P := fun x => x = gsOk l) ⟨_, svalid_ev l (by omega) hl.size, rfl⟩ fun y hy => ?_
    subst hx; subst hy
    simp only [bne_self_eq_false, Bool.false_eq_true, if_false]
    by_cases hg : gsOk l = true
    · simp only [if_pos hg]
      exact part_j1 l1 l hl _ (fun h => ⟨hg, by simpa using h⟩)
    · simp only [if_neg hg]
      exact part_j1 l1 l hl true (fun h => by simp at h)
  · simp only [if_true]
    exact EndsIn.now _ rfl
theorem FnGroupsPart : OFnGroupsPart.Pure := by
  intro l0 l1 hl0 ho0 hl1 ho1
  refine EndsIn.rounds ?_
  unfold laws_FnGroupsPart.f
  have hr := fun x hx => u8_range (ho0 x hx)
  by_cases h : (l0.length : Int) > 1048576
  · simp only [if_pos h]
    exact part_j0 l0 l1 hr true
  · simp only [if_neg h]
    exact part_j0 l0 l1 hr _
end Go.Proofs.Ythlnbbehcpdnfaa.Pure
