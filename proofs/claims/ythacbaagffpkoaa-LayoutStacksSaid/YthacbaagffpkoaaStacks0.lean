/-
LayoutStacks, run with so many heights, all unknown.
-/
import Derived.Test.YthacbaagffpkoaaStacksBase
set_option linter.unusedVariables false
set_option maxRecDepth 100000
namespace Go.Proofs.Ythacbaagffpkoaa.Stacks
open Go.RowKit Go.Ai
theorem run_21 : go 21 (uk 100 21 9223372036854775807) = true := by kernel_rfl
end Go.Proofs.Ythacbaagffpkoaa.Stacks
