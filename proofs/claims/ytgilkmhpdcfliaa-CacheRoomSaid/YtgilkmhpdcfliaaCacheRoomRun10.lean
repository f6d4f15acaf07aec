/-
CacheRoom in pieces, seen by the kernel.
-/
import Derived.Test.YtgilkmhpdcfliaaCacheRoomPts
set_option linter.unusedVariables false
set_option maxRecDepth 100000
namespace Go.Proofs.Ytgilkmhpdcfliaa.CacheRoom
open Go.RowKit Go.Ai
theorem rest : (ptE.run Kn.none fun T0 h => endsAt 0 .ret ptQ [] (execF Try.prog (runK Try.prog 100) 95 100 (sndC (sndC (sndC (sndC C)))) none T0 h)) = true := by kernel_rfl
end Go.Proofs.Ytgilkmhpdcfliaa.CacheRoom
