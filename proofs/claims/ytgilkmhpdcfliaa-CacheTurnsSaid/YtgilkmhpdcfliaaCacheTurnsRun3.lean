/-
CacheTurns in pieces, seen by the kernel.
-/
import Derived.Test.YtgilkmhpdcfliaaCacheTurnsPts
set_option linter.unusedVariables false
set_option maxRecDepth 100000
namespace Go.Proofs.Ytgilkmhpdcfliaa.CacheTurns
open Go.RowKit Go.Ai
theorem round3 : (pt2.run Kn.none fun T0 h => endsAt 0 .normal pt3 [0, 1, 2, 3, 999, 1267, 6, 7, 8, 906, 998, 11, 12, 13, 14, 15, 16, 17, 18, 19, 20, 21, 22, 23, 24, 25, 26, 27, 28, 29, 30, 31, 32, 33, 34, 365, 367, 426, 772, 774, 833, 1185, 1187, 1246, 35, 36, 950, 996, 39, 40, 41, 42, 43, 44, 45, 46, 47, 48, 49, 50, 51, 52, 53, 54, 371, 375, 778, 782, 1191, 1195] (execF Try.prog (runK Try.prog 100) 158 100 (repC B 3) none T0 h)) = true := by kernel_rfl
end Go.Proofs.Ytgilkmhpdcfliaa.CacheTurns
