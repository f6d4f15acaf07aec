/-
LayoutStacks, run with so many heights, all unknown.
-/
import Derived.Test.YthacbaagffpkoaaStacksBase
set_option linter.unusedVariables false
set_option maxRecDepth 100000
namespace Go.Proofs.Ythacbaagffpkoaa.Stacks
open Go.RowKit Go.Ai
theorem run_18 : go 18 (Lin.num 18) = true := by kernel_rfl
theorem run_2 : go 2 (Lin.num 2) = true := by kernel_rfl
end Go.Proofs.Ythacbaagffpkoaa.Stacks
