/- The plain statement of FnExactGroupsValid. -/
import Derived.Test.YthlnbbehcpdnfaaPuGroupConv
import Derived.Test.YthlnbbehcpdnfaaOFnExactGroupsValid
namespace Go.Proofs.Ythlnbbehcpdnfaa.Pure
open Go.RowKit Go.Proofs.Ythlnbbehcpdnfaa.G Go.Proofs.YthlnbbehcpdnfaaW.PrintWords Go.Proofs.YthlnbbehcpdnfaaW.PrintLast Go.Proofs.Ythlnbbehcpdnfaa.Pu
theorem FnExactGroupsValid : OFnExactGroupsValid.Pure := by
  intro l hl ho
  refine Ends.rounds ?_
  unfold laws_FnExactGroupsValid.f
  have hs : ∀ g ∈ l, g.f0.size ≤ 9223372036854775807 := fun g hg => (ho g hg).1
  refine Ends.bind (szGroupS_ends l hl hs 1048576 (by omega) (by omega)) fun r hr => ?_
  by_cases h : r < 0
  · simp only [if_pos h]
    exact Ends.now _ rfl
  · simp only [if_neg h]
    obtain ⟨hl2, hs2⟩ := hr.resolve_left h
    have hl3 : (l.map cvG).length ≤ 1048576 := by rw [List.length_map]; exact hl2
    have hs3 : ∀ g ∈ l.map cvG, g.f0.size ≤ 9223372036854775807 := by
      intro g hg
      obtain ⟨x, hx, rfl⟩ := List.mem_map.1 hg
      exact hs x hx
    refine ⟨true, ?_, rfl⟩
    refine Ev.bind (toGroupS_ev l hl2) ?_
    refine Ev.bind (svalid_ev _ (by omega) hs3) ?_
    refine Ev.bind (toGroupS_ev l hl2) ?_
    refine Ev.bind (valid_ev _ (by omega) hs3) ?_
    simp only [bne_self_eq_false, Bool.false_eq_true, if_false]
    refine Ev.bind (toGroupS_ev l hl2) ?_
    refine Ev.bind (eqGroupS_ev _ hl3) ?_
    simp only [if_true]
    exact Ev.now _
end Go.Proofs.Ythlnbbehcpdnfaa.Pure
