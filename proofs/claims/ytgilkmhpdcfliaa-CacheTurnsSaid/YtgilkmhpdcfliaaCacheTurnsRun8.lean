/-
CacheTurns in pieces, seen by the kernel.
-/
import Derived.Test.YtgilkmhpdcfliaaCacheTurnsPts
set_option linter.unusedVariables false
set_option maxRecDepth 100000
namespace Go.Proofs.Ytgilkmhpdcfliaa.CacheTurns
open Go.RowKit Go.Ai
theorem rest : (ptE.run Kn.none fun T0 h => endsAt 0 .ret ptQ [] (execF Try.prog (runK Try.prog 100) 158 100 (sndC (sndC (sndC (sndC (sndC (sndC (sndC C))))))) none T0 h)) = true := by kernel_rfl
end Go.Proofs.Ytgilkmhpdcfliaa.CacheTurns
