/- The reference's Size. -/
import Derived.Test.YtdilliddflnbnaaBasicsA
import Derived.Test.YtdilliddflnbnaaPAx2
namespace Go.Proofs.Ytdilliddflnbnaa.PA
open Go.RowKit Go.Proofs.YtdilliddflnbnaaW.PrintWords Go.Proofs.YtdilliddflnbnaaW.PrintLast Go.Proofs.YtdilliddflnbnaaW.PrintMore

theorem size_eq (a : Int) : arrasref1_Size.f a = some (pl a) := by
  unfold arrasref1_Size.f arrasref0_Num.f pl
  by_cases h : 0 ≤ a
  · rw [if_pos h]; simp [h]
  · rw [if_neg h]; simp [h]

end Go.Proofs.Ytdilliddflnbnaa.PA
