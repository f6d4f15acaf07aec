/-
LayoutStacks, run with so many heights, all unknown.
-/
import Derived.Test.YthacbaagffpkoaaStacksBase
set_option linter.unusedVariables false
set_option maxRecDepth 100000
namespace Go.Proofs.Ythacbaagffpkoaa.Stacks
open Go.RowKit Go.Ai
theorem run_17 : go 17 (Lin.num 17) = true := by kernel_rfl
theorem run_3 : go 3 (Lin.num 3) = true := by kernel_rfl
end Go.Proofs.Ythacbaagffpkoaa.Stacks
