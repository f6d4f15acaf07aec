/-
LayoutStacks, run with so many heights, all unknown.
-/
import Derived.Test.YthacbaagffpkoaaStacksBase
set_option linter.unusedVariables false
set_option maxRecDepth 100000
namespace Go.Proofs.Ythacbaagffpkoaa.Stacks
open Go.RowKit Go.Ai
theorem run_15 : go 15 (Lin.num 15) = true := by kernel_rfl
theorem run_5 : go 5 (Lin.num 5) = true := by kernel_rfl
theorem run_6 : go 6 (Lin.num 6) = true := by kernel_rfl
end Go.Proofs.Ythacbaagffpkoaa.Stacks
