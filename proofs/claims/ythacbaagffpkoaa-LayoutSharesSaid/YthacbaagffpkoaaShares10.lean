/-
LayoutShares in pieces, seen by the kernel.
-/
import Derived.Test.YthacbaagffpkoaaSharesBase
set_option linter.unusedVariables false
set_option maxRecDepth 100000
namespace Go.Proofs.Ythacbaagffpkoaa.Shares
open Go.RowKit Go.Ai
theorem d_9_0 : ((pc 9 0).run (knD 9 0) fun T0 h => endsAt 0 .ret ptQ [] (execF Try.prog (runK Try.prog 300) 146 300 REST none T0 h)) = true := by kernel_rfl
theorem d_9_4 : ((pc 9 4).run (knD 9 4) fun T0 h => endsAt 0 .ret ptQ [] (execF Try.prog (runK Try.prog 300) 146 300 REST none T0 h)) = true := by kernel_rfl
theorem d_6_3 : ((pc 6 3).run (knD 6 3) fun T0 h => endsAt 0 .ret ptQ [] (execF Try.prog (runK Try.prog 300) 146 300 REST none T0 h)) = true := by kernel_rfl
theorem d_4_3 : ((pc 4 3).run (knD 4 3) fun T0 h => endsAt 0 .ret ptQ [] (execF Try.prog (runK Try.prog 300) 146 300 REST none T0 h)) = true := by kernel_rfl
theorem al_2 : ((startL 2).run (knA 2) fun T0 h => endsAt 0 .normal pal [0, 44, 42] (execF Try.prog (runK Try.prog 300) 146 300 (seqL pre .skip) none T0 h)) = true := by kernel_rfl
theorem a_7 : ((startB 7).run (knA 7) fun T0 h => endsAt 1 .normal (wid E 0 [] pa) [0, 1, 45, 43] (execF Try.prog (runK Try.prog 300) 146 300 (seqL pre .skip) none T0 h)) = true := by kernel_rfl
theorem exit_7 : (pl7.run (knX 7) fun T0 h => endsAt 0 (.exit 0) (px 7) [0, 1, 2, 3, 4, 5, 6, 7, 8, 9, 10, 11, 12, 13, 14, 15, 16, 17, 18, 19, 20, 21, 22, 23, 24] (execF Try.prog (runK Try.prog 300) 146 300 B none T0 h)) = true := by kernel_rfl
theorem toL_10 : ((wid E 0 [] pb10).run Kn.none fun T0 h => asPt 0 pl10 [1, 2, 3, 4, 5, 6, 7, 8, 9, 10, 11, 12, 13, 14, 15, 16, 17, 18, 19, 20, 21, 22, 23, 24, 25, 26, 27, 28, 29, 30, 31, 32, 33, 34] T0 h) = true := by kernel_rfl
end Go.Proofs.Ythacbaagffpkoaa.Shares
