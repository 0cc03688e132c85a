/- What the law FnGroupsPart asks of its arguments, as plain data: how they are opened, and the one plain statement that is left. -/
import Derived.Test.YthlnbbehcpdnfaaGx8
import Derived.Test.YthlnbbehcpdnfaaRd
namespace Go.Proofs.Ythlnbbehcpdnfaa.OFnGroupsPart
open Go.RowKit Go.Proofs.YthlnbbehcpdnfaaW.PrintWords Go.Proofs.Ythlnbbehcpdnfaa.G
set_option linter.unusedVariables false
def Pure : Prop := ∀ (l0 : List Int) (l1 : List Int), l0.length ≤ maxLen → (∀ y ∈ l0, (Lit.int .u8 y).wf = true) → l1.length ≤ maxLen → (∀ y ∈ l1, (Lit.int .u8 y).wf = true) → ∃ k, laws_FnGroupsPart.f k l0 l1 = some true
end Go.Proofs.Ythlnbbehcpdnfaa.OFnGroupsPart
