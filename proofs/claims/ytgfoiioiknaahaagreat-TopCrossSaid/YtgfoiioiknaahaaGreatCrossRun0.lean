/-
TopCross in pieces, seen by the kernel.
-/
import Derived.Test.YtgfoiioiknaahaaGreatCrossPts
set_option linter.unusedVariables false
set_option maxRecDepth 1000000
namespace Go.Proofs.YtgfoiioiknaahaaGreat.TopCross
open Go.RowKit Go.Ai
theorem piece0 : (pt0.run Kn.none fun T0 h => endsAt 0 .normal pt1 [0, 1, 31, 29, 12, 27, 2, 17, 4, 9, 19, 24, 3, 18] (execF Tryz.prog (runK Tryz.prog 300) 165 300 (seqL [s0, s1, s2] .skip) none T0 h)) = true := by kernel_rfl
end Go.Proofs.YtgfoiioiknaahaaGreat.TopCross
