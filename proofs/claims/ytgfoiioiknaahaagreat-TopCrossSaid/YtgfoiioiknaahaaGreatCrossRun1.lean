/-
TopCross in pieces, seen by the kernel.
-/
import Derived.Test.YtgfoiioiknaahaaGreatCrossPts
set_option linter.unusedVariables false
set_option maxRecDepth 1000000
namespace Go.Proofs.YtgfoiioiknaahaaGreat.TopCross
open Go.RowKit Go.Ai
theorem piece1 : (pt1.run Kn.none fun T0 h => endsAt 0 .normal pt2 [0, 1, 242, 2, 3, 4, 5, 6, 7, 8, 41, 145, 172, 174, 10, 11, 234, 228, 230, 12, 241, 143, 163, 13, 225, 232, 240] (execF Tryz.prog (runK Tryz.prog 300) 165 300 (seqL [s3] .skip) none T0 h)) = true := by kernel_rfl
end Go.Proofs.YtgfoiioiknaahaaGreat.TopCross
