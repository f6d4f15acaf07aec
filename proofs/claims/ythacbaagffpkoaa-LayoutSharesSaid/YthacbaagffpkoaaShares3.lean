/-
LayoutShares in pieces, seen by the kernel.
-/
import Derived.Test.YthacbaagffpkoaaSharesBase
set_option linter.unusedVariables false
set_option maxRecDepth 100000
namespace Go.Proofs.Ythacbaagffpkoaa.Shares
open Go.RowKit Go.Ai
theorem d_10_3 : ((pc 10 3).run (knD 10 3) fun T0 h => endsAt 0 .ret ptQ [] (execF Try.prog (runK Try.prog 300) 146 300 REST none T0 h)) = true := by kernel_rfl
theorem d_8_2 : ((pc 8 2).run (knD 8 2) fun T0 h => endsAt 0 .ret ptQ [] (execF Try.prog (runK Try.prog 300) 146 300 REST none T0 h)) = true := by kernel_rfl
theorem d_7_4 : ((pc 7 4).run (knD 7 4) fun T0 h => endsAt 0 .ret ptQ [] (execF Try.prog (runK Try.prog 300) 146 300 REST none T0 h)) = true := by kernel_rfl
theorem d_2_1 : ((pc 2 1).run (knD 2 1) fun T0 h => endsAt 0 .ret ptQ [] (execF Try.prog (runK Try.prog 300) 146 300 REST none T0 h)) = true := by kernel_rfl
theorem miss_4 : (pl4.run (knM 4) fun T0 h => endsAt 0 .normal pl5 [0, 1, 2, 105, 4, 5, 6, 7, 8, 9, 10, 11, 57, 103, 12, 13, 14, 15, 101] (execF Try.prog (runK Try.prog 300) 146 300 B none T0 h)) = true := by kernel_rfl
theorem miss_7 : (pl7.run (knM 7) fun T0 h => endsAt 0 .normal pl8 [0, 1, 2, 114, 4, 5, 6, 7, 8, 9, 10, 11, 12, 13, 14, 15, 16, 17, 66, 112, 18, 19, 20, 21, 22, 23, 24, 110] (execF Try.prog (runK Try.prog 300) 146 300 B none T0 h)) = true := by kernel_rfl
theorem al_4 : ((startL 4).run (knA 4) fun T0 h => endsAt 0 .normal pal [0, 44, 42] (execF Try.prog (runK Try.prog 300) 146 300 (seqL pre .skip) none T0 h)) = true := by kernel_rfl
theorem exit_1 : (pl1.run (knX 1) fun T0 h => endsAt 0 (.exit 0) (px 1) [0, 1, 2, 3, 4, 5, 6] (execF Try.prog (runK Try.prog 300) 146 300 B none T0 h)) = true := by kernel_rfl
theorem toL_3 : ((wid E 0 [] pb3).run Kn.none fun T0 h => asPt 0 pl3 [1, 2, 3, 4, 5, 6, 7, 8, 9, 10, 11, 12, 13] T0 h) = true := by kernel_rfl
end Go.Proofs.Ythacbaagffpkoaa.Shares
