/-
FlexFrozen's pieces, seen by the kernel.
-/
import Derived.Test.YtjjlmmebkemlgaaFrozenBase
set_option linter.unusedVariables false
namespace Go.Proofs.Ytjjlmmebkemlgaa.Frozen
open Go.RowKit Go.Ai
set_option maxRecDepth 100000 in
theorem round_5_0 : ((ptA 5).run (kn 5 0) fun T0 h => endsAt 1 .normal (ptB 5) [0] (execF Try.prog (runK Try.prog 100) 77 100 B none T0 h)) = true := by kernel_rfl
set_option maxRecDepth 100000 in
theorem round_5_1 : ((ptA 5).run (kn 5 1) fun T0 h => endsAt 1 .normal (ptB 5) [0] (execF Try.prog (runK Try.prog 100) 77 100 B none T0 h)) = true := by kernel_rfl
set_option maxRecDepth 100000 in
theorem round_6_0 : ((ptA 6).run (kn 6 0) fun T0 h => endsAt 1 .normal (ptB 6) [0] (execF Try.prog (runK Try.prog 100) 77 100 B none T0 h)) = true := by kernel_rfl
set_option maxRecDepth 100000 in
theorem round_6_1 : ((ptA 6).run (kn 6 1) fun T0 h => endsAt 1 .normal (ptB 6) [0] (execF Try.prog (runK Try.prog 100) 77 100 B none T0 h)) = true := by kernel_rfl
set_option maxRecDepth 100000 in
theorem round_7_0 : ((ptA 7).run (kn 7 0) fun T0 h => endsAt 1 .normal (ptB 7) [0] (execF Try.prog (runK Try.prog 100) 77 100 B none T0 h)) = true := by kernel_rfl
set_option maxRecDepth 100000 in
theorem round_7_1 : ((ptA 7).run (kn 7 1) fun T0 h => endsAt 1 .normal (ptB 7) [0] (execF Try.prog (runK Try.prog 100) 77 100 B none T0 h)) = true := by kernel_rfl
set_option maxRecDepth 100000 in
theorem round_8_0 : ((ptA 8).run (kn 8 0) fun T0 h => endsAt 1 .normal (ptB 8) [0] (execF Try.prog (runK Try.prog 100) 77 100 B none T0 h)) = true := by kernel_rfl
set_option maxRecDepth 100000 in
theorem round_8_1 : ((ptA 8).run (kn 8 1) fun T0 h => endsAt 1 .normal (ptB 8) [0] (execF Try.prog (runK Try.prog 100) 77 100 B none T0 h)) = true := by kernel_rfl
set_option maxRecDepth 100000 in
theorem round_9_0 : ((ptA 9).run (kn 9 0) fun T0 h => endsAt 1 .normal (ptB 9) [0] (execF Try.prog (runK Try.prog 100) 77 100 B none T0 h)) = true := by kernel_rfl
set_option maxRecDepth 100000 in
theorem round_9_1 : ((ptA 9).run (kn 9 1) fun T0 h => endsAt 1 .normal (ptB 9) [0] (execF Try.prog (runK Try.prog 100) 77 100 B none T0 h)) = true := by kernel_rfl
end Go.Proofs.Ytjjlmmebkemlgaa.Frozen
