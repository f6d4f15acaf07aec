/-
FlexFrozen's pieces, seen by the kernel.
-/
import Derived.Test.YtjjlmmebkemlgaaFrozenBase
set_option linter.unusedVariables false
namespace Go.Proofs.Ytjjlmmebkemlgaa.Frozen
open Go.RowKit Go.Ai
set_option maxRecDepth 100000 in
theorem round_0_0 : ((ptA 0).run (kn 0 0) fun T0 h => endsAt 1 .normal (ptB 0) [0] (execF Try.prog (runK Try.prog 100) 77 100 B none T0 h)) = true := by kernel_rfl
set_option maxRecDepth 100000 in
theorem round_0_1 : ((ptA 0).run (kn 0 1) fun T0 h => endsAt 1 .normal (ptB 0) [0] (execF Try.prog (runK Try.prog 100) 77 100 B none T0 h)) = true := by kernel_rfl
set_option maxRecDepth 100000 in
theorem round_1_0 : ((ptA 1).run (kn 1 0) fun T0 h => endsAt 1 .normal (ptB 1) [0] (execF Try.prog (runK Try.prog 100) 77 100 B none T0 h)) = true := by kernel_rfl
set_option maxRecDepth 100000 in
theorem round_1_1 : ((ptA 1).run (kn 1 1) fun T0 h => endsAt 1 .normal (ptB 1) [0] (execF Try.prog (runK Try.prog 100) 77 100 B none T0 h)) = true := by kernel_rfl
set_option maxRecDepth 100000 in
theorem round_2_0 : ((ptA 2).run (kn 2 0) fun T0 h => endsAt 1 .normal (ptB 2) [0] (execF Try.prog (runK Try.prog 100) 77 100 B none T0 h)) = true := by kernel_rfl
set_option maxRecDepth 100000 in
theorem round_2_1 : ((ptA 2).run (kn 2 1) fun T0 h => endsAt 1 .normal (ptB 2) [0] (execF Try.prog (runK Try.prog 100) 77 100 B none T0 h)) = true := by kernel_rfl
set_option maxRecDepth 100000 in
theorem round_3_0 : ((ptA 3).run (kn 3 0) fun T0 h => endsAt 1 .normal (ptB 3) [0] (execF Try.prog (runK Try.prog 100) 77 100 B none T0 h)) = true := by kernel_rfl
set_option maxRecDepth 100000 in
theorem round_3_1 : ((ptA 3).run (kn 3 1) fun T0 h => endsAt 1 .normal (ptB 3) [0] (execF Try.prog (runK Try.prog 100) 77 100 B none T0 h)) = true := by kernel_rfl
set_option maxRecDepth 100000 in
theorem round_4_0 : ((ptA 4).run (kn 4 0) fun T0 h => endsAt 1 .normal (ptB 4) [0] (execF Try.prog (runK Try.prog 100) 77 100 B none T0 h)) = true := by kernel_rfl
set_option maxRecDepth 100000 in
theorem round_4_1 : ((ptA 4).run (kn 4 1) fun T0 h => endsAt 1 .normal (ptB 4) [0] (execF Try.prog (runK Try.prog 100) 77 100 B none T0 h)) = true := by kernel_rfl
end Go.Proofs.Ytjjlmmebkemlgaa.Frozen
