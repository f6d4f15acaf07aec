/-
TopCross in pieces, seen by the kernel.
-/
import Derived.Test.YtgfoiioiknaahaaGreatCrossPts
set_option linter.unusedVariables false
set_option maxRecDepth 1000000
namespace Go.Proofs.YtgfoiioiknaahaaGreat.TopCross
open Go.RowKit Go.Ai
theorem piece10 : (pt10.run Kn.none fun T0 h => endsAt 0 .normal pt11 [0, 2, 3, 4, 8, 9, 10, 11, 18, 19, 20, 21, 22, 23, 24, 25] (execF Tryz.prog (runK Tryz.prog 300) 165 300 (seqL [s12] .skip) none T0 h)) = true := by kernel_rfl
end Go.Proofs.YtgfoiioiknaahaaGreat.TopCross
