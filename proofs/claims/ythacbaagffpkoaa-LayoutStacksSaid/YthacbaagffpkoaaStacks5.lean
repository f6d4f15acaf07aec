/-
LayoutStacks, run with so many heights, all unknown.
-/
import Derived.Test.YthacbaagffpkoaaStacksBase
set_option linter.unusedVariables false
set_option maxRecDepth 100000
namespace Go.Proofs.Ythacbaagffpkoaa.Stacks
open Go.RowKit Go.Ai
theorem run_16 : go 16 (Lin.num 16) = true := by kernel_rfl
theorem run_4 : go 4 (Lin.num 4) = true := by kernel_rfl
end Go.Proofs.Ythacbaagffpkoaa.Stacks
