/-
LayoutShares in pieces, seen by the kernel.
-/
import Derived.Test.YthacbaagffpkoaaSharesBase
set_option linter.unusedVariables false
set_option maxRecDepth 100000
namespace Go.Proofs.Ythacbaagffpkoaa.Shares
open Go.RowKit Go.Ai
theorem d_10_0 : ((pc 10 0).run (knD 10 0) fun T0 h => endsAt 0 .ret ptQ [] (execF Try.prog (runK Try.prog 300) 146 300 REST none T0 h)) = true := by kernel_rfl
theorem d_9_8 : ((pc 9 8).run (knD 9 8) fun T0 h => endsAt 0 .ret ptQ [] (execF Try.prog (runK Try.prog 300) 146 300 REST none T0 h)) = true := by kernel_rfl
theorem d_5_1 : ((pc 5 1).run (knD 5 1) fun T0 h => endsAt 0 .ret ptQ [] (execF Try.prog (runK Try.prog 300) 146 300 REST none T0 h)) = true := by kernel_rfl
theorem d_5_3 : ((pc 5 3).run (knD 5 3) fun T0 h => endsAt 0 .ret ptQ [] (execF Try.prog (runK Try.prog 300) 146 300 REST none T0 h)) = true := by kernel_rfl
theorem toL_0 : ((wid E 0 [] pb0).run Kn.none fun T0 h => asPt 0 pl0 [1, 2, 3] T0 h) = true := by kernel_rfl
end Go.Proofs.Ythacbaagffpkoaa.Shares
