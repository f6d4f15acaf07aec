/-
TopCross in pieces, seen by the kernel.
-/
import Derived.Test.YtgfoiioiknaahaaGreatCrossPts
set_option linter.unusedVariables false
set_option maxRecDepth 1000000
namespace Go.Proofs.YtgfoiioiknaahaaGreat.TopCross
open Go.RowKit Go.Ai
theorem piece2 : (pt2.run Kn.none fun T0 h => endsAt 0 .normal pt3 [0, 1, 2, 397, 3, 4, 5, 6, 7, 8, 9, 70, 277, 327, 329, 14, 15, 389, 383, 385, 19, 396, 76, 275, 88, 303, 23, 380, 387, 26, 395] (execF Tryz.prog (runK Tryz.prog 300) 165 300 (seqL [s4] .skip) none T0 h)) = true := by kernel_rfl
end Go.Proofs.YtgfoiioiknaahaaGreat.TopCross
