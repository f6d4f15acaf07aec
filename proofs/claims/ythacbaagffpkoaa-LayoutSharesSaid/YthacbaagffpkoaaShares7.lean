/-
LayoutShares in pieces, seen by the kernel.
-/
import Derived.Test.YthacbaagffpkoaaSharesBase
set_option linter.unusedVariables false
set_option maxRecDepth 100000
namespace Go.Proofs.Ythacbaagffpkoaa.Shares
open Go.RowKit Go.Ai
theorem d_10_7 : ((pc 10 7).run (knD 10 7) fun T0 h => endsAt 0 .ret ptQ [] (execF Try.prog (runK Try.prog 300) 146 300 REST none T0 h)) = true := by kernel_rfl
theorem d_8_6 : ((pc 8 6).run (knD 8 6) fun T0 h => endsAt 0 .ret ptQ [] (execF Try.prog (runK Try.prog 300) 146 300 REST none T0 h)) = true := by kernel_rfl
theorem d_6_1 : ((pc 6 1).run (knD 6 1) fun T0 h => endsAt 0 .ret ptQ [] (execF Try.prog (runK Try.prog 300) 146 300 REST none T0 h)) = true := by kernel_rfl
theorem d_4_0 : ((pc 4 0).run (knD 4 0) fun T0 h => endsAt 0 .ret ptQ [] (execF Try.prog (runK Try.prog 300) 146 300 REST none T0 h)) = true := by kernel_rfl
theorem a_1 : ((startB 1).run (knA 1) fun T0 h => endsAt 1 .normal (wid E 0 [] pa) [0, 1, 45, 43] (execF Try.prog (runK Try.prog 300) 146 300 (seqL pre .skip) none T0 h)) = true := by kernel_rfl
theorem al_5 : ((startL 5).run (knA 5) fun T0 h => endsAt 0 .normal pal [0, 44, 42] (execF Try.prog (runK Try.prog 300) 146 300 (seqL pre .skip) none T0 h)) = true := by kernel_rfl
theorem exit_4 : (pl4.run (knX 4) fun T0 h => endsAt 0 (.exit 0) (px 4) [0, 1, 2, 3, 4, 5, 6, 7, 8, 9, 10, 11, 12, 13, 14, 15] (execF Try.prog (runK Try.prog 300) 146 300 B none T0 h)) = true := by kernel_rfl
theorem toL_7 : ((wid E 0 [] pb7).run Kn.none fun T0 h => asPt 0 pl7 [1, 2, 3, 4, 5, 6, 7, 8, 9, 10, 11, 12, 13, 14, 15, 16, 17, 18, 19, 20, 21, 22, 23, 24, 25] T0 h) = true := by kernel_rfl
end Go.Proofs.Ythacbaagffpkoaa.Shares
