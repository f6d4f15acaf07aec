/-
TopCross in pieces, seen by the kernel.
-/
import Derived.Test.YtgfoiioiknaahaaGreatCrossPts
set_option linter.unusedVariables false
set_option maxRecDepth 1000000
namespace Go.Proofs.YtgfoiioiknaahaaGreat.TopCross
open Go.RowKit Go.Ai
theorem piece6 : (pt6.run Kn.none fun T0 h => endsAt 0 .normal pt7 [0, 1, 2, 3, 4, 54, 5, 6, 7, 8, 9, 10, 11, 12, 13, 14, 15, 16, 17, 18, 19, 66, 424, 82, 507, 24, 25, 26, 566, 560, 562, 30, 31, 32, 33, 34, 35, 36, 37, 38, 573, 72, 76, 422, 88, 92, 451, 44, 557, 47, 48, 49, 50, 564, 52, 53, 572] (execF Tryz.prog (runK Tryz.prog 300) 165 300 (seqL [s8] .skip) none T0 h)) = true := by kernel_rfl
end Go.Proofs.YtgfoiioiknaahaaGreat.TopCross
