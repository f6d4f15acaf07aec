/- The pure statement of the law LineOnes, and that what comes in is told by the kinds of the print. -/
import Derived.Test.YtdilliddflnbnaaPAx7
import Derived.Test.YtdilliddflnbnaaPAx0
import Derived.Test.YtdilliddflnbnaaWRead
import Derived.KernelRfl
namespace Go.Proofs.Ytdilliddflnbnaa.TLineOnes
open Go.RowKit Go.Proofs.YtdilliddflnbnaaW.PrintWords Go.Proofs.YtdilliddflnbnaaW.PrintLast Go.Proofs.Ytdilliddflnbnaa Go.Proofs.Ytdilliddflnbnaa.PA
/-- What is known of a struct that came in. -/
def phi25 (b : S25) : Prop := ((b.f0.length ≤ maxLen ∧ ∀ y ∈ b.f0, (Lit.int .i64 y).wf = true)) ∧ ((Lit.int .i64 b.f1).wf = true) ∧ ((Lit.int .i64 b.f2).wf = true)
theorem told25 : Told Try.prog k25 25 phi25 :=
  told_struct (fun p => ⟨p.1, p.2.1, p.2.2⟩) (fun _ => rfl) Try.underlying25 (by kernel_rfl) (told_cons rfl (by kernel_rfl) (told_slice Try.underlying23 (by kernel_rfl) (told_int Try.underlying3)) (told_cons rfl (by kernel_rfl) (told_int Try.underlying3) (told_last rfl (by kernel_rfl) (told_int Try.underlying3))))
def Pure : Prop := ∀ (l0 : List S25), (l0.length ≤ maxLen ∧ ∀ y ∈ l0, phi25 y) → ∃ k, arraslaw19_LineOnes.f k l0 = some true
end Go.Proofs.Ytdilliddflnbnaa.TLineOnes
