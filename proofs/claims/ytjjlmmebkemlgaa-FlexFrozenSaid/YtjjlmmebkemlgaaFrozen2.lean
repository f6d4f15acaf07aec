/-
FlexFrozen's pieces, seen by the kernel.
-/
import Derived.Test.YtjjlmmebkemlgaaFrozenBase
set_option linter.unusedVariables false
namespace Go.Proofs.Ytjjlmmebkemlgaa.Frozen
open Go.RowKit Go.Ai
set_option maxRecDepth 100000 in
theorem exit_0 : ((ptX 0).run (knX 0) fun T0 h => endsAt 1 (.exit 0) ptE [0] (execF Try.prog (runK Try.prog 100) 77 100 B none T0 h)) = true := by kernel_rfl
set_option maxRecDepth 100000 in
theorem exit_1 : ((ptX 1).run (knX 1) fun T0 h => endsAt 1 (.exit 0) ptE [0] (execF Try.prog (runK Try.prog 100) 77 100 B none T0 h)) = true := by kernel_rfl
set_option maxRecDepth 100000 in
theorem exit_2 : ((ptX 2).run (knX 2) fun T0 h => endsAt 1 (.exit 0) ptE [0] (execF Try.prog (runK Try.prog 100) 77 100 B none T0 h)) = true := by kernel_rfl
set_option maxRecDepth 100000 in
theorem exit_3 : ((ptX 3).run (knX 3) fun T0 h => endsAt 1 (.exit 0) ptE [0] (execF Try.prog (runK Try.prog 100) 77 100 B none T0 h)) = true := by kernel_rfl
set_option maxRecDepth 100000 in
theorem exit_4 : ((ptX 4).run (knX 4) fun T0 h => endsAt 1 (.exit 0) ptE [0] (execF Try.prog (runK Try.prog 100) 77 100 B none T0 h)) = true := by kernel_rfl
set_option maxRecDepth 100000 in
theorem exit_5 : ((ptX 5).run (knX 5) fun T0 h => endsAt 1 (.exit 0) ptE [0] (execF Try.prog (runK Try.prog 100) 77 100 B none T0 h)) = true := by kernel_rfl
set_option maxRecDepth 100000 in
theorem exit_6 : ((ptX 6).run (knX 6) fun T0 h => endsAt 1 (.exit 0) ptE [0] (execF Try.prog (runK Try.prog 100) 77 100 B none T0 h)) = true := by kernel_rfl
set_option maxRecDepth 100000 in
theorem exit_7 : ((ptX 7).run (knX 7) fun T0 h => endsAt 1 (.exit 0) ptE [0] (execF Try.prog (runK Try.prog 100) 77 100 B none T0 h)) = true := by kernel_rfl
set_option maxRecDepth 100000 in
theorem exit_8 : ((ptX 8).run (knX 8) fun T0 h => endsAt 1 (.exit 0) ptE [0] (execF Try.prog (runK Try.prog 100) 77 100 B none T0 h)) = true := by kernel_rfl
set_option maxRecDepth 100000 in
theorem exit_9 : ((ptX 9).run (knX 9) fun T0 h => endsAt 1 (.exit 0) ptE [0] (execF Try.prog (runK Try.prog 100) 77 100 B none T0 h)) = true := by kernel_rfl
set_option maxRecDepth 100000 in
theorem exit_10 : ((ptX 10).run (knX 10) fun T0 h => endsAt 1 (.exit 0) ptE [0] (execF Try.prog (runK Try.prog 100) 77 100 B none T0 h)) = true := by kernel_rfl
set_option maxRecDepth 100000 in
theorem exit_11 : ((ptX 10).run kn10 fun T0 h => endsAt 1 (.exit 0) ptE [0] (execF Try.prog (runK Try.prog 100) 77 100 B none T0 h)) = true := by kernel_rfl
set_option maxRecDepth 100000 in
theorem begin_0 : (pt0.run Kn.none fun T0 h => endsAt 1 .normal pt1 [0] (execF Try.prog (runK Try.prog 100) 77 100 (fstC C) none T0 h)) = true := by kernel_rfl
set_option maxRecDepth 100000 in
theorem begin_1 : (pt1.run Kn.none fun T0 h => endsAt 1 .normal (ptX 0) [0] (execF Try.prog (runK Try.prog 100) 77 100 (fstC (fstC (sndC C))) none T0 h)) = true := by kernel_rfl
set_option maxRecDepth 100000 in
theorem rest : (ptE.run Kn.none fun T0 h => endsAt 1 .ret ptQ [0] (execF Try.prog (runK Try.prog 100) 77 100 (sndC (sndC C)) none T0 h)) = true := by kernel_rfl
set_option maxRecDepth 100000 in
theorem empty : isTrue (runK Try.prog 100 11 [.one (.lsl (Lin.num 0))] (H.of Kn.none)) = true := by kernel_rfl
end Go.Proofs.Ytjjlmmebkemlgaa.Frozen
