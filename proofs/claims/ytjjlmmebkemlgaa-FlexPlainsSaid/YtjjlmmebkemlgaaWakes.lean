/-
'wakes' answers true, whatever the world.
-/
import Derived.Test.YtjjlmmebkemlgaaAiTop
import Derived.Test.YtjjlmmebkemlgaaProg
set_option linter.unusedVariables false
namespace Go.Proofs.Ytjjlmmebkemlgaa.Wake
open Go.RowKit Go.Ai
theorem orders : Try.prog.follows .mixedOrders = true := by kernel_rfl
theorem names : namesB Try.prog = true := by kernel_rfl
set_option maxRecDepth 100000 in
theorem run : isTrue (runF Try.prog 200 26 [] H.none) = true := by kernel_rfl
theorem calls (w : World) : Calls Try.prog 26 #[] w fun e w' => e = .returned (.bool true) ∧ Below w.heap.size w w' := run_true orders names 200 .nil run w
end Go.Proofs.Ytjjlmmebkemlgaa.Wake
