/-
LayoutShares in pieces, seen by the kernel.
-/
import Derived.Test.YthacbaagffpkoaaSharesBase
set_option linter.unusedVariables false
set_option maxRecDepth 100000
namespace Go.Proofs.Ythacbaagffpkoaa.Shares
open Go.RowKit Go.Ai
theorem d_10_2 : ((pc 10 2).run (knD 10 2) fun T0 h => endsAt 0 .ret ptQ [] (execF Try.prog (runK Try.prog 300) 146 300 REST none T0 h)) = true := by kernel_rfl
theorem d_8_1 : ((pc 8 1).run (knD 8 1) fun T0 h => endsAt 0 .ret ptQ [] (execF Try.prog (runK Try.prog 300) 146 300 REST none T0 h)) = true := by kernel_rfl
theorem d_7_3 : ((pc 7 3).run (knD 7 3) fun T0 h => endsAt 0 .ret ptQ [] (execF Try.prog (runK Try.prog 300) 146 300 REST none T0 h)) = true := by kernel_rfl
theorem d_2_0 : ((pc 2 0).run (knD 2 0) fun T0 h => endsAt 0 .ret ptQ [] (execF Try.prog (runK Try.prog 300) 146 300 REST none T0 h)) = true := by kernel_rfl
theorem has_4 : ((wid E 5 (rowOf 4) pb4).run (knH 4) fun T0 h => endsAt 1 .normal (wid E 5 (rowOf 4) pb5) [0, 1, 2, 3, 106, 5, 6, 7, 8, 9, 10, 11, 12, 58, 104, 13, 14, 15, 16, 102] (execF Try.prog (runK Try.prog 300) 146 300 B none T0 h)) = true := by kernel_rfl
theorem has_7 : ((wid E 8 (rowOf 7) pb7).run (knH 7) fun T0 h => endsAt 1 .normal (wid E 8 (rowOf 7) pb8) [0, 1, 2, 3, 115, 5, 6, 7, 8, 9, 10, 11, 12, 13, 14, 15, 16, 17, 18, 67, 113, 19, 20, 21, 22, 23, 24, 25, 111] (execF Try.prog (runK Try.prog 300) 146 300 B none T0 h)) = true := by kernel_rfl
theorem toL_2 : ((wid E 0 [] pb2).run Kn.none fun T0 h => asPt 0 pl2 [1, 2, 3, 4, 5, 6, 7, 8, 9, 10] T0 h) = true := by kernel_rfl
end Go.Proofs.Ythacbaagffpkoaa.Shares
