/-
TopCross in pieces, seen by the kernel.
-/
import Derived.Test.YtgfoiioiknaahaaGreatCrossPts
set_option linter.unusedVariables false
set_option maxRecDepth 1000000
namespace Go.Proofs.YtgfoiioiknaahaaGreat.TopCross
open Go.RowKit Go.Ai
theorem piece11 : (pt11.run Kn.none fun T0 h => endsAt 0 .normal pt12 [0, 1, 2, 16, 17] (execF Tryz.prog (runK Tryz.prog 300) 165 300 (seqL [s13] .skip) none T0 h)) = true := by kernel_rfl
end Go.Proofs.YtgfoiioiknaahaaGreat.TopCross
