/-
CacheTurns in pieces, seen by the kernel.
-/
import Derived.Test.YtgilkmhpdcfliaaCacheTurnsPts
set_option linter.unusedVariables false
set_option maxRecDepth 100000
namespace Go.Proofs.Ytgilkmhpdcfliaa.CacheTurns
open Go.RowKit Go.Ai
theorem round5 : (pt4.run Kn.none fun T0 h => endsAt 0 .normal pt5 [0, 1, 2, 3, 658, 956, 6, 7, 8, 565, 657, 11, 12, 13, 14, 15, 16, 17, 18, 19, 20, 21, 22, 23, 24, 25, 26, 27, 28, 29, 30, 31, 32, 33, 34, 35, 36, 37, 38, 39, 40, 41, 42, 43, 44, 45, 46, 47, 48, 49, 50, 51, 52, 431, 433, 492, 874, 876, 935, 53, 54, 609, 655, 57, 58, 59, 60, 61, 62, 63, 64, 65, 66, 67, 68, 69, 70, 71, 72, 73, 74, 75, 76, 77, 78, 79, 80, 81, 82, 83, 84, 437, 441, 880, 884] (execF Try.prog (runK Try.prog 100) 158 100 (repC B 2) none T0 h)) = true := by kernel_rfl
end Go.Proofs.Ytgilkmhpdcfliaa.CacheTurns
