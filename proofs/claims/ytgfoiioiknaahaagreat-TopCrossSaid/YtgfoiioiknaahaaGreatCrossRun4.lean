/-
TopCross in pieces, seen by the kernel.
-/
import Derived.Test.YtgfoiioiknaahaaGreatCrossPts
set_option linter.unusedVariables false
set_option maxRecDepth 1000000
namespace Go.Proofs.YtgfoiioiknaahaaGreat.TopCross
open Go.RowKit Go.Ai
theorem piece4 : (pt4.run Kn.none fun T0 h => endsAt 0 .normal pt5 [0, 1, 2, 3, 4, 5, 6, 7, 8, 9, 10, 11, 12, 13, 62, 64, 78, 80, 18, 581, 583, 597, 599, 23, 24, 25, 26, 27, 28, 29, 30, 68, 72, 84, 88, 35, 36, 587, 591, 603, 607, 41, 42, 43, 44, 45, 46, 47, 48, 49] (execF Tryz.prog (runK Tryz.prog 300) 165 300 (seqL [s6] .skip) none T0 h)) = true := by kernel_rfl
end Go.Proofs.YtgfoiioiknaahaaGreat.TopCross
