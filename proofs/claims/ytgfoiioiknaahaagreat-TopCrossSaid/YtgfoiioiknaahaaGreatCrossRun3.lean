/-
TopCross in pieces, seen by the kernel.
-/
import Derived.Test.YtgfoiioiknaahaaGreatCrossPts
set_option linter.unusedVariables false
set_option maxRecDepth 1000000
namespace Go.Proofs.YtgfoiioiknaahaaGreat.TopCross
open Go.RowKit Go.Ai
theorem piece3 : (pt3.run Kn.none fun T0 h => endsAt 0 .normal pt4 [0, 1, 2, 3, 4, 5, 1082, 6, 7, 8, 9, 1024, 1079, 10, 1392, 1394, 1408, 1410, 15, 1425, 1427, 1441, 1443, 17, 18, 19, 763, 755, 757, 20, 21, 1398, 1402, 1414, 1418, 26, 774, 1431, 1435, 1447, 1451, 27, 736, 752, 28, 29, 30, 759, 769, 773] (execF Tryz.prog (runK Tryz.prog 300) 165 300 (seqL [s5] .skip) none T0 h)) = true := by kernel_rfl
end Go.Proofs.YtgfoiioiknaahaaGreat.TopCross
