/-
LayoutStacks, run with so many heights, all unknown.
-/
import Derived.Test.YthacbaagffpkoaaStacksBase
set_option linter.unusedVariables false
set_option maxRecDepth 100000
namespace Go.Proofs.Ythacbaagffpkoaa.Stacks
open Go.RowKit Go.Ai
theorem run_19 : go 19 (Lin.num 19) = true := by kernel_rfl
theorem run_1 : go 1 (Lin.num 1) = true := by kernel_rfl
end Go.Proofs.Ythacbaagffpkoaa.Stacks
