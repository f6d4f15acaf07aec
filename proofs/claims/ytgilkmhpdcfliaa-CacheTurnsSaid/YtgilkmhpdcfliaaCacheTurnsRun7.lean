/-
CacheTurns in pieces, seen by the kernel.
-/
import Derived.Test.YtgilkmhpdcfliaaCacheTurnsPts
set_option linter.unusedVariables false
set_option maxRecDepth 100000
namespace Go.Proofs.Ytgilkmhpdcfliaa.CacheTurns
open Go.RowKit Go.Ai
theorem round7 : (pt6.run Kn.none fun T0 h => endsAt 0 .normal pt7 [0, 1, 2, 3, 702, 1024, 6, 7, 8, 609, 701, 11, 12, 13, 14, 15, 16, 17, 18, 19, 20, 21, 22, 23, 24, 25, 26, 27, 28, 29, 30, 31, 32, 33, 34, 35, 36, 37, 38, 39, 40, 41, 42, 43, 44, 45, 46, 47, 48, 49, 50, 51, 52, 53, 54, 55, 56, 57, 58, 59, 60, 61, 62, 63, 64, 475, 477, 536, 942, 944, 1003, 65, 66, 653, 699, 69, 70, 71, 72, 73, 74, 75, 76, 77, 78, 79, 80, 81, 82, 83, 84, 85, 86, 87, 88, 89, 90, 91, 92, 93, 94, 95, 96, 97, 98, 99, 100, 101, 102, 103, 104, 481, 485, 948, 952] (execF Try.prog (runK Try.prog 100) 158 100 (repC B 2) none T0 h)) = true := by kernel_rfl
end Go.Proofs.Ytgilkmhpdcfliaa.CacheTurns
