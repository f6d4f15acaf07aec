/-
CacheRoom in pieces, seen by the kernel.
-/
import Derived.Test.YtgilkmhpdcfliaaCacheRoomPts
set_option linter.unusedVariables false
set_option maxRecDepth 100000
namespace Go.Proofs.Ytgilkmhpdcfliaa.CacheRoom
open Go.RowKit Go.Ai
theorem round4 : (pt3.run Kn.none fun T0 h => endsAt 0 .normal pt4 [0, 1, 1556, 3, 4, 5, 6, 7, 8, 9, 10, 11, 12, 13, 14, 15, 16, 17, 18, 19, 20, 21, 22, 23, 24, 25, 116, 319, 522, 725, 928, 1131, 1334, 1537, 26] (execF Try.prog (runK Try.prog 100) 95 100 (repC B 8) none T0 h)) = true := by kernel_rfl
end Go.Proofs.Ytgilkmhpdcfliaa.CacheRoom
