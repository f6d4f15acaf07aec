/-
LayoutShares in pieces, seen by the kernel.
-/
import Derived.Test.YthacbaagffpkoaaSharesBase
set_option linter.unusedVariables false
set_option maxRecDepth 100000
namespace Go.Proofs.Ythacbaagffpkoaa.Shares
open Go.RowKit Go.Ai
theorem d_10_5 : ((pc 10 5).run (knD 10 5) fun T0 h => endsAt 0 .ret ptQ [] (execF Try.prog (runK Try.prog 300) 146 300 REST none T0 h)) = true := by kernel_rfl
theorem d_8_4 : ((pc 8 4).run (knD 8 4) fun T0 h => endsAt 0 .ret ptQ [] (execF Try.prog (runK Try.prog 300) 146 300 REST none T0 h)) = true := by kernel_rfl
theorem d_7_6 : ((pc 7 6).run (knD 7 6) fun T0 h => endsAt 0 .ret ptQ [] (execF Try.prog (runK Try.prog 300) 146 300 REST none T0 h)) = true := by kernel_rfl
theorem has_0 : ((wid E 1 (rowOf 0) pb0).run (knH 0) fun T0 h => endsAt 1 .normal (wid E 1 (rowOf 0) pb1) [0, 1, 2, 3, 93, 45, 91, 89] (execF Try.prog (runK Try.prog 300) 146 300 B none T0 h)) = true := by kernel_rfl
theorem miss_0 : (pl0.run (knM 0) fun T0 h => endsAt 0 .normal pl1 [0, 1, 2, 92, 44, 90, 88] (execF Try.prog (runK Try.prog 300) 146 300 B none T0 h)) = true := by kernel_rfl
theorem has_1 : ((wid E 2 (rowOf 1) pb1).run (knH 1) fun T0 h => endsAt 1 .normal (wid E 2 (rowOf 1) pb2) [0, 1, 2, 3, 97, 5, 6, 49, 95, 7, 93] (execF Try.prog (runK Try.prog 300) 146 300 B none T0 h)) = true := by kernel_rfl
theorem miss_1 : (pl1.run (knM 1) fun T0 h => endsAt 0 .normal pl2 [0, 1, 2, 96, 4, 5, 48, 94, 6, 92] (execF Try.prog (runK Try.prog 300) 146 300 B none T0 h)) = true := by kernel_rfl
theorem has_2 : ((wid E 3 (rowOf 2) pb2).run (knH 2) fun T0 h => endsAt 1 .normal (wid E 3 (rowOf 2) pb3) [0, 1, 2, 3, 100, 5, 6, 7, 8, 52, 98, 9, 10, 96] (execF Try.prog (runK Try.prog 300) 146 300 B none T0 h)) = true := by kernel_rfl
theorem has_3 : ((wid E 4 (rowOf 3) pb3).run (knH 3) fun T0 h => endsAt 1 .normal (wid E 4 (rowOf 3) pb4) [0, 1, 2, 3, 103, 5, 6, 7, 8, 9, 10, 55, 101, 11, 12, 13, 99] (execF Try.prog (runK Try.prog 300) 146 300 B none T0 h)) = true := by kernel_rfl
theorem has_5 : ((wid E 6 (rowOf 5) pb5).run (knH 5) fun T0 h => endsAt 1 .normal (wid E 6 (rowOf 5) pb6) [0, 1, 2, 3, 109, 5, 6, 7, 8, 9, 10, 11, 12, 13, 14, 61, 107, 15, 16, 17, 18, 19, 105] (execF Try.prog (runK Try.prog 300) 146 300 B none T0 h)) = true := by kernel_rfl
theorem has_8 : ((wid E 9 (rowOf 8) pb8).run (knH 8) fun T0 h => endsAt 1 .normal (wid E 9 (rowOf 8) pb9) [0, 1, 2, 3, 118, 5, 6, 7, 8, 9, 10, 11, 12, 13, 14, 15, 16, 17, 18, 19, 20, 70, 116, 21, 22, 23, 24, 25, 26, 27, 28, 114] (execF Try.prog (runK Try.prog 300) 146 300 B none T0 h)) = true := by kernel_rfl
theorem a_5 : ((startB 5).run (knA 5) fun T0 h => endsAt 1 .normal (wid E 0 [] pa) [0, 1, 45, 43] (execF Try.prog (runK Try.prog 300) 146 300 (seqL pre .skip) none T0 h)) = true := by kernel_rfl
theorem exit_2 : (pl2.run (knX 2) fun T0 h => endsAt 0 (.exit 0) (px 2) [0, 1, 2, 3, 4, 5, 6, 7, 8, 9] (execF Try.prog (runK Try.prog 300) 146 300 B none T0 h)) = true := by kernel_rfl
theorem toL_5 : ((wid E 0 [] pb5).run Kn.none fun T0 h => asPt 0 pl5 [1, 2, 3, 4, 5, 6, 7, 8, 9, 10, 11, 12, 13, 14, 15, 16, 17, 18, 19] T0 h) = true := by kernel_rfl
end Go.Proofs.Ythacbaagffpkoaa.Shares
