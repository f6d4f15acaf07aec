/-
CacheRoom in pieces, seen by the kernel.
-/
import Derived.Test.YtgilkmhpdcfliaaCacheRoomPts
set_option linter.unusedVariables false
set_option maxRecDepth 100000
namespace Go.Proofs.Ytgilkmhpdcfliaa.CacheRoom
open Go.RowKit Go.Ai
theorem round2 : (pt1.run Kn.none fun T0 h => endsAt 0 .normal pt2 [0, 1, 1540, 3, 4, 5, 6, 7, 8, 9, 100, 303, 506, 709, 912, 1115, 1318, 1521, 10] (execF Try.prog (runK Try.prog 100) 95 100 (repC B 8) none T0 h)) = true := by kernel_rfl
end Go.Proofs.Ytgilkmhpdcfliaa.CacheRoom
