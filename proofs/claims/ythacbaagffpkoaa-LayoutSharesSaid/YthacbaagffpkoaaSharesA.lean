/-
LayoutShares: its begins, seen by the kernel.
-/
import Derived.Test.YthacbaagffpkoaaSharesBase
set_option linter.unusedVariables false
set_option maxRecDepth 100000
namespace Go.Proofs.Ythacbaagffpkoaa.Shares
open Go.RowKit Go.Ai
def Wl2 (n : Nat) : S := .lsl (ukc 10 101 0 ((9223372036854775808 - (n : Int)) / 10) (n - 1))
def startB2 (k : Nat) : Pt := ⟨slotsFrom 0 [.agg [Wl2 k, .slx 0 0 0 E, raw 0, raw 2]], ([[]] : List (List S)).map OL.ro⟩
def startL2 (k : Nat) : Pt := ⟨slotsFrom 0 [.agg [Wl2 k, .lsl E, raw 0, raw 2]], ([] : List (List S)).map OL.ro⟩
theorem a2_1 : ((startB2 1).run (knA 1) fun T0 h => endsAt 1 .normal (wid E 0 [] pa) [0, 1, 45, 43] (execF Try.prog (runK Try.prog 300) 146 300 (seqL pre .skip) none T0 h)) = true := by kernel_rfl
theorem al2_1 : ((startL2 1).run (knA 1) fun T0 h => endsAt 0 .normal pal [0, 44, 42] (execF Try.prog (runK Try.prog 300) 146 300 (seqL pre .skip) none T0 h)) = true := by kernel_rfl
theorem a2_2 : ((startB2 2).run (knA 2) fun T0 h => endsAt 1 .normal (wid E 0 [] pa) [0, 1, 45, 43] (execF Try.prog (runK Try.prog 300) 146 300 (seqL pre .skip) none T0 h)) = true := by kernel_rfl
theorem al2_2 : ((startL2 2).run (knA 2) fun T0 h => endsAt 0 .normal pal [0, 44, 42] (execF Try.prog (runK Try.prog 300) 146 300 (seqL pre .skip) none T0 h)) = true := by kernel_rfl
theorem a2_3 : ((startB2 3).run (knA 3) fun T0 h => endsAt 1 .normal (wid E 0 [] pa) [0, 1, 45, 43] (execF Try.prog (runK Try.prog 300) 146 300 (seqL pre .skip) none T0 h)) = true := by kernel_rfl
theorem al2_3 : ((startL2 3).run (knA 3) fun T0 h => endsAt 0 .normal pal [0, 44, 42] (execF Try.prog (runK Try.prog 300) 146 300 (seqL pre .skip) none T0 h)) = true := by kernel_rfl
theorem a2_4 : ((startB2 4).run (knA 4) fun T0 h => endsAt 1 .normal (wid E 0 [] pa) [0, 1, 45, 43] (execF Try.prog (runK Try.prog 300) 146 300 (seqL pre .skip) none T0 h)) = true := by kernel_rfl
theorem al2_4 : ((startL2 4).run (knA 4) fun T0 h => endsAt 0 .normal pal [0, 44, 42] (execF Try.prog (runK Try.prog 300) 146 300 (seqL pre .skip) none T0 h)) = true := by kernel_rfl
theorem a2_5 : ((startB2 5).run (knA 5) fun T0 h => endsAt 1 .normal (wid E 0 [] pa) [0, 1, 45, 43] (execF Try.prog (runK Try.prog 300) 146 300 (seqL pre .skip) none T0 h)) = true := by kernel_rfl
theorem al2_5 : ((startL2 5).run (knA 5) fun T0 h => endsAt 0 .normal pal [0, 44, 42] (execF Try.prog (runK Try.prog 300) 146 300 (seqL pre .skip) none T0 h)) = true := by kernel_rfl
theorem a2_6 : ((startB2 6).run (knA 6) fun T0 h => endsAt 1 .normal (wid E 0 [] pa) [0, 1, 45, 43] (execF Try.prog (runK Try.prog 300) 146 300 (seqL pre .skip) none T0 h)) = true := by kernel_rfl
theorem al2_6 : ((startL2 6).run (knA 6) fun T0 h => endsAt 0 .normal pal [0, 44, 42] (execF Try.prog (runK Try.prog 300) 146 300 (seqL pre .skip) none T0 h)) = true := by kernel_rfl
theorem a2_7 : ((startB2 7).run (knA 7) fun T0 h => endsAt 1 .normal (wid E 0 [] pa) [0, 1, 45, 43] (execF Try.prog (runK Try.prog 300) 146 300 (seqL pre .skip) none T0 h)) = true := by kernel_rfl
theorem al2_7 : ((startL2 7).run (knA 7) fun T0 h => endsAt 0 .normal pal [0, 44, 42] (execF Try.prog (runK Try.prog 300) 146 300 (seqL pre .skip) none T0 h)) = true := by kernel_rfl
theorem a2_8 : ((startB2 8).run (knA 8) fun T0 h => endsAt 1 .normal (wid E 0 [] pa) [0, 1, 45, 43] (execF Try.prog (runK Try.prog 300) 146 300 (seqL pre .skip) none T0 h)) = true := by kernel_rfl
theorem al2_8 : ((startL2 8).run (knA 8) fun T0 h => endsAt 0 .normal pal [0, 44, 42] (execF Try.prog (runK Try.prog 300) 146 300 (seqL pre .skip) none T0 h)) = true := by kernel_rfl
theorem a2_9 : ((startB2 9).run (knA 9) fun T0 h => endsAt 1 .normal (wid E 0 [] pa) [0, 1, 45, 43] (execF Try.prog (runK Try.prog 300) 146 300 (seqL pre .skip) none T0 h)) = true := by kernel_rfl
theorem al2_9 : ((startL2 9).run (knA 9) fun T0 h => endsAt 0 .normal pal [0, 44, 42] (execF Try.prog (runK Try.prog 300) 146 300 (seqL pre .skip) none T0 h)) = true := by kernel_rfl
theorem a2_10 : ((startB2 10).run (knA 10) fun T0 h => endsAt 1 .normal (wid E 0 [] pa) [0, 1, 45, 43] (execF Try.prog (runK Try.prog 300) 146 300 (seqL pre .skip) none T0 h)) = true := by kernel_rfl
theorem al2_10 : ((startL2 10).run (knA 10) fun T0 h => endsAt 0 .normal pal [0, 44, 42] (execF Try.prog (runK Try.prog 300) 146 300 (seqL pre .skip) none T0 h)) = true := by kernel_rfl
end Go.Proofs.Ythacbaagffpkoaa.Shares
