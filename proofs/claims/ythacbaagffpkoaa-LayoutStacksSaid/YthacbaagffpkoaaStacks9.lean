/-
LayoutStacks, run with so many heights, all unknown.
-/
import Derived.Test.YthacbaagffpkoaaStacksBase
set_option linter.unusedVariables false
set_option maxRecDepth 100000
namespace Go.Proofs.Ythacbaagffpkoaa.Stacks
open Go.RowKit Go.Ai
theorem run_12 : go 12 (Lin.num 12) = true := by kernel_rfl
theorem run_11 : go 11 (Lin.num 11) = true := by kernel_rfl
end Go.Proofs.Ythacbaagffpkoaa.Stacks
