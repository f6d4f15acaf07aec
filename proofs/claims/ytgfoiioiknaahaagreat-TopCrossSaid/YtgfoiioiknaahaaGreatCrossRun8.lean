/-
TopCross in pieces, seen by the kernel.
-/
import Derived.Test.YtgfoiioiknaahaaGreatCrossPts
set_option linter.unusedVariables false
set_option maxRecDepth 1000000
namespace Go.Proofs.YtgfoiioiknaahaaGreat.TopCross
open Go.RowKit Go.Ai
theorem piece8 : (pt8.run Kn.none fun T0 h => endsAt 0 .normal pt9 [0, 1, 2, 3, 4, 5, 1585, 7, 8, 9, 10, 1511, 1582, 13, 2019, 2021, 2043, 2045, 18, 2068, 2070, 2092, 2094, 768, 762, 764, 1142, 1136, 1138, 29, 775, 2025, 2029, 2033, 2037, 2049, 2053, 2057, 2061, 37, 1149, 2074, 2078, 2082, 2086, 2098, 2102, 2106, 2110, 759, 1133, 766, 48, 49, 50, 774, 1140, 52, 53, 54, 1148] (execF Tryz.prog (runK Tryz.prog 300) 165 300 (seqL [s10] .skip) none T0 h)) = true := by kernel_rfl
end Go.Proofs.YtgfoiioiknaahaaGreat.TopCross
