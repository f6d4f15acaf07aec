/-
LayoutShares in pieces, seen by the kernel.
-/
import Derived.Test.YthacbaagffpkoaaSharesBase
set_option linter.unusedVariables false
set_option maxRecDepth 100000
namespace Go.Proofs.Ythacbaagffpkoaa.Shares
open Go.RowKit Go.Ai
theorem d_9_1 : ((pc 9 1).run (knD 9 1) fun T0 h => endsAt 0 .ret ptQ [] (execF Try.prog (runK Try.prog 300) 146 300 REST none T0 h)) = true := by kernel_rfl
theorem d_9_5 : ((pc 9 5).run (knD 9 5) fun T0 h => endsAt 0 .ret ptQ [] (execF Try.prog (runK Try.prog 300) 146 300 REST none T0 h)) = true := by kernel_rfl
theorem d_6_4 : ((pc 6 4).run (knD 6 4) fun T0 h => endsAt 0 .ret ptQ [] (execF Try.prog (runK Try.prog 300) 146 300 REST none T0 h)) = true := by kernel_rfl
theorem d_3_0 : ((pc 3 0).run (knD 3 0) fun T0 h => endsAt 0 .ret ptQ [] (execF Try.prog (runK Try.prog 300) 146 300 REST none T0 h)) = true := by kernel_rfl
theorem miss_5 : (pl5.run (knM 5) fun T0 h => endsAt 0 .normal pl6 [0, 1, 2, 108, 4, 5, 6, 7, 8, 9, 10, 11, 12, 13, 60, 106, 14, 15, 16, 17, 18, 104] (execF Try.prog (runK Try.prog 300) 146 300 B none T0 h)) = true := by kernel_rfl
theorem miss_8 : (pl8.run (knM 8) fun T0 h => endsAt 0 .normal pl9 [0, 1, 2, 117, 4, 5, 6, 7, 8, 9, 10, 11, 12, 13, 14, 15, 16, 17, 18, 19, 69, 115, 20, 21, 22, 23, 24, 25, 26, 27, 113] (execF Try.prog (runK Try.prog 300) 146 300 B none T0 h)) = true := by kernel_rfl
theorem al_7 : ((startL 7).run (knA 7) fun T0 h => endsAt 0 .normal pal [0, 44, 42] (execF Try.prog (runK Try.prog 300) 146 300 (seqL pre .skip) none T0 h)) = true := by kernel_rfl
theorem exit_8 : (pl8.run (knX 8) fun T0 h => endsAt 0 (.exit 0) (px 8) [0, 1, 2, 3, 4, 5, 6, 7, 8, 9, 10, 11, 12, 13, 14, 15, 16, 17, 18, 19, 20, 21, 22, 23, 24, 25, 26, 27] (execF Try.prog (runK Try.prog 300) 146 300 B none T0 h)) = true := by kernel_rfl
end Go.Proofs.Ythacbaagffpkoaa.Shares
