/-
CacheTurns in pieces, seen by the kernel.
-/
import Derived.Test.YtgilkmhpdcfliaaCacheTurnsPts
set_option linter.unusedVariables false
set_option maxRecDepth 100000
namespace Go.Proofs.Ytgilkmhpdcfliaa.CacheTurns
open Go.RowKit Go.Ai
theorem round2 : (pt1.run Kn.none fun T0 h => endsAt 0 .normal pt2 [0, 1, 2, 3, 947, 1197, 6, 7, 8, 854, 946, 11, 12, 13, 14, 15, 16, 17, 18, 19, 20, 21, 22, 23, 24, 25, 332, 334, 392, 720, 722, 781, 1115, 1117, 1176, 26, 27, 898, 944, 30, 31, 32, 33, 34, 35, 36, 37, 38, 39, 338, 342, 726, 730, 1121, 1125] (execF Try.prog (runK Try.prog 100) 158 100 (repC B 3) none T0 h)) = true := by kernel_rfl
end Go.Proofs.Ytgilkmhpdcfliaa.CacheTurns
