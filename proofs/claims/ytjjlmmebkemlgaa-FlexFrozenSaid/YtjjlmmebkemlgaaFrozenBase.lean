/-
FlexFrozen's pieces: the loop's body, points.
-/
import Derived.Test.YtjjlmmebkemlgaaAiCut
import Derived.Test.YtjjlmmebkemlgaaAiTwo
import Derived.Test.YtjjlmmebkemlgaaProg
import Derived.KernelRfl
set_option linter.unusedVariables false
namespace Go.Proofs.Ytjjlmmebkemlgaa.Frozen
open Go.RowKit Go.Ai
theorem orders : Try.prog.follows .mixedOrders = true := by kernel_rfl
theorem names : namesB Try.prog = true := by kernel_rfl
theorem body : HasBody Try.prog 21 := hasBodyB (by kernel_rfl)
theorem within1000 : withinB Try.prog 21 1000 := ⟨by kernel_rfl, by kernel_rfl⟩
noncomputable def C := bodyAt Try.prog 11
noncomputable def B := inC (inC (sndC (fstC (sndC C))))
def E : Lin := uk 100 0 9223372036854775807
def cells (i : Nat) : List S := List.replicate (3 * i) .any ++ [.anysl, raw (4 * i), raw (4 * i + 2)]
def ptA (i : Nat) : Pt := ⟨(0, .one (.slx 0 0 (i + 1) E)) :: [(2, .one (.b false)), (3, .one (.i .i64 i))], [.ro (cells i)]⟩
def ptB (i : Nat) : Pt := ⟨(0, .one (.slx 0 0 (i + 1) E)) :: [(2, .one (.b false)), (3, .one (.i .i64 ((i + 1 : Nat) : Int)))], [.ro (cells i)]⟩
def ptX (i : Nat) : Pt := ⟨(0, .one (.slx 0 0 0 E)) :: [(2, .one (.b false)), (3, .one (.i .i64 i))], [.ro []]⟩
def ptE : Pt := ⟨[(2, .one (.b false))], [.ro []]⟩
def ptQ : Pt := ⟨[(2, .one (.b true))], [.ro []]⟩
def pt0 : Pt := ⟨slotsFrom 0 [.one (.slx 0 0 0 E)], [[]].map OL.ro⟩
def pt1 : Pt := ⟨[(0, .one (.slx 0 0 0 E)), (2, .one (.b false))], [.ro []]⟩
def kn (i : Nat) (r : Int) : Kn := { call := withinK 21 [(4 * i, 1000, ukc 2 (4 * i + 1) 0 499 r), (4 * i + 2, 1000, uk (4 * i + 3) 0 999)], facts := [E.sub (Lin.num ((i : Int) + 1))], mx := [] }
def knX (i : Nat) : Kn := { call := fun _ _ => none, facts := [(Lin.num i).sub E], mx := [] }
def kn10 : Kn := { call := fun _ _ => none, facts := [E.sub (Lin.num 11)], mx := [] }
end Go.Proofs.Ytjjlmmebkemlgaa.Frozen
