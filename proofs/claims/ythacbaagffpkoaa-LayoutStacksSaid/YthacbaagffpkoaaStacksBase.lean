/-
LayoutStacks: what comes in, told for so many heights.
-/
import Derived.Test.YthacbaagffpkoaaAiTwo
import Derived.Test.YthacbaagffpkoaaRowTwo
set_option linter.unusedVariables false
namespace Go.Proofs.Ythacbaagffpkoaa.Stacks
open Go.RowKit Go.Ai Go.Proofs.Ythacbaagffpkoaa.RowTwo
theorem orders : Try.prog.follows .mixedOrders = true := by kernel_rfl
theorem names : namesB Try.prog = true := by kernel_rfl
theorem body : HasBody Try.prog 18 := hasBodyB (by kernel_rfl)
theorem within500 : withinB Try.prog 18 500 := ⟨by kernel_rfl, by kernel_rfl⟩
theorem within5000 : withinB Try.prog 18 5000 := ⟨by kernel_rfl, by kernel_rfl⟩
theorem within100000 : withinB Try.prog 18 100000 := ⟨by kernel_rfl, by kernel_rfl⟩
def rowOf (m : Nat) : List S := (List.range m).map fun i => raw (10 + 2 * i)
def tabH : Nat → List (Nat × Nat × Lin)
  | 0 => []
  | m + 1 => tabH m ++ [(10 + 2 * m, 5000, uk (11 + 2 * m) 0 4999)]
def tab (m : Nat) : List (Nat × Nat × Lin) := (0, 500, uk 1 0 499) :: (2, 100000, uk 3 0 99999) :: tabH m
def kn (m : Nat) : Kn := { call := withinK 18 (tab m), facts := [], mx := [] }
def slice (m : Nat) (e : Lin) : S := .slx 0 0 m e
noncomputable def go (m : Nat) (e : Lin) : Bool := isTrue (runK Try.prog 300 4 [.agg [.anysl, slice m e, raw 0, raw 2]] (H.rows (kn m) [rowOf m]))
noncomputable def go0 : Bool := isTrue (runK Try.prog 300 4 [.agg [.anysl, .lsl (Lin.num 0), raw 0, raw 2]] (H.of (kn 0)))
end Go.Proofs.Ythacbaagffpkoaa.Stacks
