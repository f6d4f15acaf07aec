/- The pure statement of the law ShareLaws, and that what comes in is told by the kinds of the print. -/
import Derived.Test.YtjjlmmebkemlgaaPSx10
import Derived.Test.YtjjlmmebkemlgaaPSx0
import Derived.Test.YtjjlmmebkemlgaaWRead
import Derived.KernelRfl
namespace Go.Proofs.Ytjjlmmebkemlgaa.TShareLaws
open Go.RowKit Go.Proofs.YtjjlmmebkemlgaaW.PrintWords Go.Proofs.YtjjlmmebkemlgaaW.PrintLast Go.Proofs.Ytjjlmmebkemlgaa Go.Proofs.Ytjjlmmebkemlgaa.PS
/-- What is known of a struct that came in. -/
def phi25 (b : S25) : Prop := ((Lit.int .i64 b.f0).wf = true) ∧ ((b.f1.length ≤ maxLen ∧ ∀ y ∈ b.f1, (Lit.int .i64 y).wf = true))
theorem told25 : Told Try.prog k25 25 phi25 :=
  told_struct (fun p => ⟨p.1, p.2⟩) (fun _ => rfl) Try.underlying25 (by kernel_rfl) (told_cons rfl (by kernel_rfl) (told_int Try.underlying3) (told_last rfl (by kernel_rfl) (told_slice Try.underlying23 (by kernel_rfl) (told_int Try.underlying3))))
def Pure : Prop := ∀ (l0 : List S25), (l0.length ≤ maxLen ∧ ∀ y ∈ l0, phi25 y) → ∃ k, arraslaw2_ShareLaws.f k l0 = some true
end Go.Proofs.Ytjjlmmebkemlgaa.TShareLaws
