/-
CacheTurns in pieces, seen by the kernel.
-/
import Derived.Test.YtgilkmhpdcfliaaCacheTurnsPts
set_option linter.unusedVariables false
set_option maxRecDepth 100000
namespace Go.Proofs.Ytgilkmhpdcfliaa.CacheTurns
open Go.RowKit Go.Ai
theorem round6 : (pt5.run Kn.none fun T0 h => endsAt 0 .normal pt6 [0, 1, 2, 3, 680, 990, 6, 7, 8, 587, 679, 11, 12, 13, 14, 15, 16, 17, 18, 19, 20, 21, 22, 23, 24, 25, 26, 27, 28, 29, 30, 31, 32, 33, 34, 35, 36, 37, 38, 39, 40, 41, 42, 43, 44, 45, 46, 47, 48, 49, 50, 51, 52, 53, 54, 55, 56, 57, 58, 453, 455, 514, 908, 910, 969, 59, 60, 631, 677, 63, 64, 65, 66, 67, 68, 69, 70, 71, 72, 73, 74, 75, 76, 77, 78, 79, 80, 81, 82, 83, 84, 85, 86, 87, 88, 89, 90, 91, 92, 93, 94, 459, 463, 914, 918] (execF Try.prog (runK Try.prog 100) 158 100 (repC B 2) none T0 h)) = true := by kernel_rfl
end Go.Proofs.Ytgilkmhpdcfliaa.CacheTurns
