/-
CacheRoom in pieces, seen by the kernel.
-/
import Derived.Test.YtgilkmhpdcfliaaCacheRoomPts
set_option linter.unusedVariables false
set_option maxRecDepth 100000
namespace Go.Proofs.Ytgilkmhpdcfliaa.CacheRoom
open Go.RowKit Go.Ai
theorem round1 : (pt0.run Kn.none fun T0 h => endsAt 0 .normal pt1 [0, 1, 1531, 294, 497, 700, 903, 1106, 1309, 1512, 91] (execF Try.prog (runK Try.prog 100) 95 100 (repC B 8) none T0 h)) = true := by kernel_rfl
end Go.Proofs.Ytgilkmhpdcfliaa.CacheRoom
