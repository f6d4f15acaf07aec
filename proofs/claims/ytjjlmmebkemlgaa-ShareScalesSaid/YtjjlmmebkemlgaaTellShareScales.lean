/- The pure statement of the law ShareScales, and that what comes in is told by the kinds of the print. -/
import Derived.Test.YtjjlmmebkemlgaaPSx12
import Derived.Test.YtjjlmmebkemlgaaPSx0
import Derived.Test.YtjjlmmebkemlgaaWReadZ
import Derived.KernelRfl
namespace Go.Proofs.Ytjjlmmebkemlgaa.TShareScales
open Go.RowKit Go.Proofs.YtjjlmmebkemlgaaW.PrintWords Go.Proofs.YtjjlmmebkemlgaaW.PrintLast Go.Proofs.Ytjjlmmebkemlgaa Go.Proofs.Ytjjlmmebkemlgaa.PS
/-- What is known of a struct that came in. -/
def phi25 (b : S25) : Prop := ((Lit.int .i64 b.f0).wf = true) ∧ ((b.f1.length * 8 ≤ reachBytes ∧ b.f1.length ≤ maxLen ∧ ∀ y ∈ b.f1, (Lit.int .i64 y).wf = true))
theorem told25 : ToldZ Try.prog k25 25 phi25 :=
  toldz_struct (fun p => ⟨p.1, p.2⟩) (fun _ => rfl) Try.underlying25 (by kernel_rfl) (toldz_cons rfl (by kernel_rfl) (toldz_of (told_int Try.underlying3)) (toldz_last rfl (by kernel_rfl) (toldz_slice Try.underlying23 (by kernel_rfl) (b := 8) (by kernel_rfl) (toldz_of (told_int Try.underlying3)))))
def Pure : Prop := ∀ (l0 : List S25), (l0.length * 32 ≤ reachBytes ∧ l0.length ≤ maxLen ∧ ∀ y ∈ l0, phi25 y) → ∃ k, arraslaw2_ShareScales.f k l0 = some true
end Go.Proofs.Ytjjlmmebkemlgaa.TShareScales
