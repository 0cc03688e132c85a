/- What the law FnExactGroupsValid asks of its arguments, as plain data: how they are opened, and the one plain statement that is left. -/
import Derived.Test.YthlnbbehcpdnfaaGx5
import Derived.Test.YthlnbbehcpdnfaaRd
namespace Go.Proofs.Ythlnbbehcpdnfaa.OFnExactGroupsValid
open Go.RowKit Go.Proofs.YthlnbbehcpdnfaaW.PrintWords Go.Proofs.Ythlnbbehcpdnfaa.G
set_option linter.unusedVariables false
def Ok51 (x : S51) : Prop := (x.f0.size ≤ maxLen) ∧ ((Lit.int .i64 x.f1).wf = true)
theorem open51 {H : Type} {enc : TypeId × Value → H} {w : World} {base : Nat} {spare : Nat → Bool} {held : Bool} : Rd.Opens enc Try.prog w base spare held 51 k51 Ok51 :=
  Rd.Opens.imp_ (Rd.opens_struct (g := fun p => (⟨p.1, p.2⟩ : S51)) Try.underlying51 (by kernel_rfl) (fun _ => rfl) (Rd.opens_more rfl (Rd.opens_string Try.underlying9 (by kernel_rfl)) (Rd.opens_last rfl (Rd.opens_int Try.underlying3 (by kernel_rfl))))) (fun _ h => h)
def Pure : Prop := ∀ (l0 : List (S51)), l0.length ≤ maxLen → (∀ y ∈ l0, Ok51 y) → ∃ k, laws_FnExactGroupsValid.f k l0 = some true
end Go.Proofs.Ythlnbbehcpdnfaa.OFnExactGroupsValid
