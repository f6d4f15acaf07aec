/-
CacheTurns in pieces, seen by the kernel.
-/
import Derived.Test.YtgilkmhpdcfliaaCacheTurnsPts
set_option linter.unusedVariables false
set_option maxRecDepth 100000
namespace Go.Proofs.Ytgilkmhpdcfliaa.CacheTurns
open Go.RowKit Go.Ai
theorem round4 : (pt3.run Kn.none fun T0 h => endsAt 0 .normal pt4 [0, 1, 2, 3, 1050, 1336, 6, 7, 8, 957, 1049, 11, 12, 13, 14, 15, 16, 17, 18, 19, 20, 21, 22, 23, 24, 25, 26, 27, 28, 29, 30, 31, 32, 33, 34, 35, 36, 37, 38, 39, 40, 41, 42, 43, 398, 400, 459, 823, 825, 884, 1254, 1256, 1315, 44, 45, 1001, 1047, 48, 49, 50, 51, 52, 53, 54, 55, 56, 57, 58, 59, 60, 61, 62, 63, 64, 65, 66, 67, 68, 69, 404, 408, 829, 833, 1260, 1264] (execF Try.prog (runK Try.prog 100) 158 100 (repC B 3) none T0 h)) = true := by kernel_rfl
end Go.Proofs.Ytgilkmhpdcfliaa.CacheTurns
