/-
LayoutStacks, run with so many heights, all unknown.
-/
import Derived.Test.YthacbaagffpkoaaStacksBase
set_option linter.unusedVariables false
set_option maxRecDepth 100000
namespace Go.Proofs.Ythacbaagffpkoaa.Stacks
open Go.RowKit Go.Ai
theorem run_13 : go 13 (Lin.num 13) = true := by kernel_rfl
theorem run_9 : go 9 (Lin.num 9) = true := by kernel_rfl
theorem run_10 : go 10 (Lin.num 10) = true := by kernel_rfl
end Go.Proofs.Ythacbaagffpkoaa.Stacks
