/-
LayoutStacks, run with so many heights, all unknown.
-/
import Derived.Test.YthacbaagffpkoaaStacksBase
set_option linter.unusedVariables false
set_option maxRecDepth 100000
namespace Go.Proofs.Ythacbaagffpkoaa.Stacks
open Go.RowKit Go.Ai
theorem run_14 : go 14 (Lin.num 14) = true := by kernel_rfl
theorem run_7 : go 7 (Lin.num 7) = true := by kernel_rfl
theorem run_8 : go 8 (Lin.num 8) = true := by kernel_rfl
end Go.Proofs.Ythacbaagffpkoaa.Stacks
