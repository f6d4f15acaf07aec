/-
CacheTurns in pieces, seen by the kernel.
-/
import Derived.Test.YtgilkmhpdcfliaaCacheTurnsPts
set_option linter.unusedVariables false
set_option maxRecDepth 100000
namespace Go.Proofs.Ytgilkmhpdcfliaa.CacheTurns
open Go.RowKit Go.Ai
theorem begin0 : (start.run Kn.none fun T0 h => endsAt 0 .normal pre0 [0] (execF Try.prog (runK Try.prog 100) 158 100 (fstC C) none T0 h)) = true := by kernel_rfl
theorem begin1 : (pre0.run Kn.none fun T0 h => endsAt 0 .normal pre1 [0, 1] (execF Try.prog (runK Try.prog 100) 158 100 (fstC (sndC C)) none T0 h)) = true := by kernel_rfl
theorem begin2 : (pre1.run Kn.none fun T0 h => endsAt 0 .normal pre2 [0, 1] (execF Try.prog (runK Try.prog 100) 158 100 (fstC (sndC (sndC C))) none T0 h)) = true := by kernel_rfl
theorem begin3 : (pre2.run Kn.none fun T0 h => endsAt 0 .normal pre3 [0, 1, 131, 43, 130, 86, 128] (execF Try.prog (runK Try.prog 100) 158 100 (fstC (sndC (sndC (sndC C)))) none T0 h)) = true := by kernel_rfl
theorem begin4 : (pre3.run Kn.none fun T0 h => endsAt 0 .normal pre4 [0, 1, 2, 223, 214, 3, 4, 218, 132, 134, 193, 5, 6, 138, 142] (execF Try.prog (runK Try.prog 100) 158 100 (fstC (sndC (sndC (sndC (sndC C))))) none T0 h)) = true := by kernel_rfl
theorem begin5 : (pre4.run Kn.none fun T0 h => endsAt 0 .normal pre5 [0, 1, 2, 3, 4, 5, 6, 7, 8, 9, 10, 11, 12, 13, 14] (execF Try.prog (runK Try.prog 100) 158 100 (fstC (sndC (sndC (sndC (sndC (sndC C)))))) none T0 h)) = true := by kernel_rfl
theorem begin6 : (pre5.run Kn.none fun T0 h => endsAt 0 .normal pt0 [0, 1, 2, 3, 4, 5, 6, 7, 8, 9, 10, 11, 12, 13, 14] (execF Try.prog (runK Try.prog 100) 158 100 (fstC (fstC (sndC (sndC (sndC (sndC (sndC (sndC C)))))))) none T0 h)) = true := by kernel_rfl
theorem ends : (pt7.run Kn.none fun T0 h => endsAt 0 (.exit 0) ptE [0, 1, 2, 3, 4, 5, 6, 7, 8, 9, 10, 11, 12, 13, 14, 15, 16, 17, 18, 19, 20, 21, 22, 23, 24, 25, 26, 27, 28, 29, 30, 31, 32, 33, 34, 35, 36, 37, 38, 39, 40, 41, 42, 43, 44, 45, 46, 47, 48, 49, 50, 51, 52, 53, 54, 55, 56, 57, 58, 59, 60, 61, 62, 63, 64, 65, 66, 67, 68, 69, 70, 71, 72, 73, 74, 75, 76, 77, 78, 79, 80, 81, 82, 83, 84, 85, 86, 87, 88, 89, 90, 91, 92, 93, 94, 95, 96, 97, 98, 99, 100, 101, 102, 103, 104, 105, 106, 107, 108, 109, 110, 111, 112, 113, 114] (execF Try.prog (runK Try.prog 100) 158 100 (B) none T0 h)) = true := by kernel_rfl
end Go.Proofs.Ytgilkmhpdcfliaa.CacheTurns
