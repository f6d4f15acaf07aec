/-
LayoutShares in pieces, seen by the kernel.
-/
import Derived.Test.YthacbaagffpkoaaSharesBase
set_option linter.unusedVariables false
set_option maxRecDepth 100000
namespace Go.Proofs.Ythacbaagffpkoaa.Shares
open Go.RowKit Go.Ai
theorem d_10_4 : ((pc 10 4).run (knD 10 4) fun T0 h => endsAt 0 .ret ptQ [] (execF Try.prog (runK Try.prog 300) 146 300 REST none T0 h)) = true := by kernel_rfl
theorem d_8_3 : ((pc 8 3).run (knD 8 3) fun T0 h => endsAt 0 .ret ptQ [] (execF Try.prog (runK Try.prog 300) 146 300 REST none T0 h)) = true := by kernel_rfl
theorem d_7_5 : ((pc 7 5).run (knD 7 5) fun T0 h => endsAt 0 .ret ptQ [] (execF Try.prog (runK Try.prog 300) 146 300 REST none T0 h)) = true := by kernel_rfl
theorem d_1_0 : ((pc 1 0).run (knD 1 0) fun T0 h => endsAt 0 .ret ptQ [] (execF Try.prog (runK Try.prog 300) 146 300 REST none T0 h)) = true := by kernel_rfl
theorem miss_2 : (pl2.run (knM 2) fun T0 h => endsAt 0 .normal pl3 [0, 1, 2, 99, 4, 5, 6, 7, 51, 97, 8, 9, 95] (execF Try.prog (runK Try.prog 300) 146 300 B none T0 h)) = true := by kernel_rfl
theorem miss_3 : (pl3.run (knM 3) fun T0 h => endsAt 0 .normal pl4 [0, 1, 2, 102, 4, 5, 6, 7, 8, 9, 54, 100, 10, 11, 12, 98] (execF Try.prog (runK Try.prog 300) 146 300 B none T0 h)) = true := by kernel_rfl
theorem miss_6 : (pl6.run (knM 6) fun T0 h => endsAt 0 .normal pl7 [0, 1, 2, 111, 4, 5, 6, 7, 8, 9, 10, 11, 12, 13, 14, 15, 63, 109, 16, 17, 18, 19, 20, 21, 107] (execF Try.prog (runK Try.prog 300) 146 300 B none T0 h)) = true := by kernel_rfl
theorem r5l : (pal.run Kn.none fun T0 h => endsAt 0 .normal pl0 [0, 1, 2] (execF Try.prog (runK Try.prog 300) 146 300 (fstC (fstC X)) none T0 h)) = true := by kernel_rfl
theorem toL_4 : ((wid E 0 [] pb4).run Kn.none fun T0 h => asPt 0 pl4 [1, 2, 3, 4, 5, 6, 7, 8, 9, 10, 11, 12, 13, 14, 15, 16] T0 h) = true := by kernel_rfl
end Go.Proofs.Ythacbaagffpkoaa.Shares
