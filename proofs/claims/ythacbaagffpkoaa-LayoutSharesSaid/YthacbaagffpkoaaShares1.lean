/-
LayoutShares in pieces, seen by the kernel.
-/
import Derived.Test.YthacbaagffpkoaaSharesBase
set_option linter.unusedVariables false
set_option maxRecDepth 100000
namespace Go.Proofs.Ythacbaagffpkoaa.Shares
open Go.RowKit Go.Ai
theorem d_10_1 : ((pc 10 1).run (knD 10 1) fun T0 h => endsAt 0 .ret ptQ [] (execF Try.prog (runK Try.prog 300) 146 300 REST none T0 h)) = true := by kernel_rfl
theorem d_8_0 : ((pc 8 0).run (knD 8 0) fun T0 h => endsAt 0 .ret ptQ [] (execF Try.prog (runK Try.prog 300) 146 300 REST none T0 h)) = true := by kernel_rfl
theorem d_7_2 : ((pc 7 2).run (knD 7 2) fun T0 h => endsAt 0 .ret ptQ [] (execF Try.prog (runK Try.prog 300) 146 300 REST none T0 h)) = true := by kernel_rfl
theorem d_3_2 : ((pc 3 2).run (knD 3 2) fun T0 h => endsAt 0 .ret ptQ [] (execF Try.prog (runK Try.prog 300) 146 300 REST none T0 h)) = true := by kernel_rfl
theorem miss_9 : (pl9.run (knM 9) fun T0 h => endsAt 0 .normal pl10 [0, 1, 2, 120, 4, 5, 6, 7, 8, 9, 10, 11, 12, 13, 14, 15, 16, 17, 18, 19, 20, 21, 72, 118, 22, 23, 24, 25, 26, 27, 28, 29, 30, 116] (execF Try.prog (runK Try.prog 300) 146 300 B none T0 h)) = true := by kernel_rfl
theorem r5b : ((wid E 0 [] pa).run Kn.none fun T0 h => endsAt 1 .normal (wid E 0 [] pb0) [0, 1, 2, 3] (execF Try.prog (runK Try.prog 300) 146 300 (fstC (fstC X)) none T0 h)) = true := by kernel_rfl
theorem toL_1 : ((wid E 0 [] pb1).run Kn.none fun T0 h => asPt 0 pl1 [1, 2, 3, 4, 5, 6, 7] T0 h) = true := by kernel_rfl
end Go.Proofs.Ythacbaagffpkoaa.Shares
