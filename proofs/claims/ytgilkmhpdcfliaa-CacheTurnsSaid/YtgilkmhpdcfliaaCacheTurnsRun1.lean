/-
CacheTurns in pieces, seen by the kernel.
-/
import Derived.Test.YtgilkmhpdcfliaaCacheTurnsPts
set_option linter.unusedVariables false
set_option maxRecDepth 100000
namespace Go.Proofs.Ytgilkmhpdcfliaa.CacheTurns
open Go.RowKit Go.Ai
theorem round1 : (pt0.run Kn.none fun T0 h => endsAt 0 .normal pt1 [0, 1, 2, 3, 1246, 1477, 5, 6, 7, 1153, 1245, 8, 9, 10, 283, 285, 344, 648, 650, 709, 1019, 1021, 1080, 1396, 1398, 1456, 11, 12, 1197, 1243, 13, 14, 289, 293, 654, 658, 1025, 1029, 1402, 1406] (execF Try.prog (runK Try.prog 100) 158 100 (repC B 4) none T0 h)) = true := by kernel_rfl
end Go.Proofs.Ytgilkmhpdcfliaa.CacheTurns
