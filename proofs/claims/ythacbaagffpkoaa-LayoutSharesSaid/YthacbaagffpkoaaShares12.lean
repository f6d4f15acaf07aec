/-
LayoutShares in pieces, seen by the kernel.
-/
import Derived.Test.YthacbaagffpkoaaSharesBase
set_option linter.unusedVariables false
set_option maxRecDepth 100000
namespace Go.Proofs.Ythacbaagffpkoaa.Shares
open Go.RowKit Go.Ai
theorem d_9_2 : ((pc 9 2).run (knD 9 2) fun T0 h => endsAt 0 .ret ptQ [] (execF Try.prog (runK Try.prog 300) 146 300 REST none T0 h)) = true := by kernel_rfl
theorem d_9_6 : ((pc 9 6).run (knD 9 6) fun T0 h => endsAt 0 .ret ptQ [] (execF Try.prog (runK Try.prog 300) 146 300 REST none T0 h)) = true := by kernel_rfl
theorem d_6_5 : ((pc 6 5).run (knD 6 5) fun T0 h => endsAt 0 .ret ptQ [] (execF Try.prog (runK Try.prog 300) 146 300 REST none T0 h)) = true := by kernel_rfl
theorem d_3_1 : ((pc 3 1).run (knD 3 1) fun T0 h => endsAt 0 .ret ptQ [] (execF Try.prog (runK Try.prog 300) 146 300 REST none T0 h)) = true := by kernel_rfl
theorem has_6 : ((wid E 7 (rowOf 6) pb6).run (knH 6) fun T0 h => endsAt 1 .normal (wid E 7 (rowOf 6) pb7) [0, 1, 2, 3, 112, 5, 6, 7, 8, 9, 10, 11, 12, 13, 14, 15, 16, 64, 110, 17, 18, 19, 20, 21, 22, 108] (execF Try.prog (runK Try.prog 300) 146 300 B none T0 h)) = true := by kernel_rfl
theorem has_9 : ((wid E 10 (rowOf 9) pb9).run (knH 9) fun T0 h => endsAt 1 .normal (wid E 10 (rowOf 9) pb10) [0, 1, 2, 3, 121, 5, 6, 7, 8, 9, 10, 11, 12, 13, 14, 15, 16, 17, 18, 19, 20, 21, 22, 73, 119, 23, 24, 25, 26, 27, 28, 29, 30, 31, 117] (execF Try.prog (runK Try.prog 300) 146 300 B none T0 h)) = true := by kernel_rfl
theorem a_8 : ((startB 8).run (knA 8) fun T0 h => endsAt 1 .normal (wid E 0 [] pa) [0, 1, 45, 43] (execF Try.prog (runK Try.prog 300) 146 300 (seqL pre .skip) none T0 h)) = true := by kernel_rfl
theorem exit_9 : (pl9.run (knX 9) fun T0 h => endsAt 0 (.exit 0) (px 9) [0, 1, 2, 3, 4, 5, 6, 7, 8, 9, 10, 11, 12, 13, 14, 15, 16, 17, 18, 19, 20, 21, 22, 23, 24, 25, 26, 27, 28, 29, 30] (execF Try.prog (runK Try.prog 300) 146 300 B none T0 h)) = true := by kernel_rfl
end Go.Proofs.Ythacbaagffpkoaa.Shares
