/-
TopCross in pieces, seen by the kernel.
-/
import Derived.Test.YtgfoiioiknaahaaGreatCrossPts
set_option linter.unusedVariables false
set_option maxRecDepth 1000000
namespace Go.Proofs.YtgfoiioiknaahaaGreat.TopCross
open Go.RowKit Go.Ai
theorem piece5 : (pt5.run Kn.none fun T0 h => endsAt 0 .normal pt6 [0, 1, 2, 3, 50, 4, 5, 6, 7, 8, 9, 10, 11, 12, 13, 62, 420, 78, 503, 18, 19, 20, 21, 22, 562, 556, 558, 26, 27, 28, 29, 569, 68, 72, 418, 84, 88, 447, 35, 36, 37, 38, 39, 40, 553, 42, 43, 560, 45, 46, 568, 47, 48, 49] (execF Tryz.prog (runK Tryz.prog 300) 165 300 (seqL [s7] .skip) none T0 h)) = true := by kernel_rfl
end Go.Proofs.YtgfoiioiknaahaaGreat.TopCross
