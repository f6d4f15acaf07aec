/-
LayoutStacks, run with so many heights, all unknown.
-/
import Derived.Test.YthacbaagffpkoaaStacksBase
set_option linter.unusedVariables false
set_option maxRecDepth 100000
namespace Go.Proofs.Ythacbaagffpkoaa.Stacks
open Go.RowKit Go.Ai
theorem run_20 : go 20 (Lin.num 20) = true := by kernel_rfl
theorem run_0 : go0 = true := by kernel_rfl
end Go.Proofs.Ythacbaagffpkoaa.Stacks
