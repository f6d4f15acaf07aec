/-
TopCross in pieces, seen by the kernel.
-/
import Derived.Test.YtgfoiioiknaahaaGreatCrossPts
set_option linter.unusedVariables false
set_option maxRecDepth 1000000
namespace Go.Proofs.YtgfoiioiknaahaaGreat.TopCross
open Go.RowKit Go.Ai
theorem piece9 : (pt9.run Kn.none fun T0 h => endsAt 0 .normal pt10 [0, 1, 2, 3, 108, 4, 5, 6, 65, 67, 89, 91, 7, 8, 9, 10, 11, 12, 71, 75, 79, 83, 95, 99, 103, 107, 13, 14, 15, 16, 17, 18, 19, 20, 21, 22, 23, 24, 25, 26, 27, 28, 29, 30, 31, 32, 33, 34, 35, 36, 37, 38, 39, 40, 41, 42, 43, 44, 45, 46, 47, 48, 49, 50, 51, 52, 53, 54, 55, 56, 57, 58, 59, 60] (execF Tryz.prog (runK Tryz.prog 300) 165 300 (seqL [s11] .skip) none T0 h)) = true := by kernel_rfl
end Go.Proofs.YtgfoiioiknaahaaGreat.TopCross
