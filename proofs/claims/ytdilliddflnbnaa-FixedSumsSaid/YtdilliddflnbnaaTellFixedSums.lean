/- The pure statement of the law FixedSums, and that what comes in is told by the kinds of the print. -/
import Derived.Test.YtdilliddflnbnaaPBx4
import Derived.Test.YtdilliddflnbnaaPBx0
import Derived.Test.YtdilliddflnbnaaWRead
import Derived.KernelRfl
namespace Go.Proofs.Ytdilliddflnbnaa.TFixedSums
open Go.RowKit Go.Proofs.YtdilliddflnbnaaW.PrintWords Go.Proofs.YtdilliddflnbnaaW.PrintLast Go.Proofs.Ytdilliddflnbnaa Go.Proofs.Ytdilliddflnbnaa.PB
def Pure : Prop := ∀ (l0 : List Int), (l0.length ≤ maxLen ∧ ∀ y ∈ l0, (Lit.int .i64 y).wf = true) → ∃ k, arraslaw1_FixedSums.f k l0 = some true
end Go.Proofs.Ytdilliddflnbnaa.TFixedSums
