/- The reference's Size. -/
import Derived.Test.YteecoblmjjmbhaaBasicsA
import Derived.Test.YteecoblmjjmbhaaPAx0
import Derived.Test.YteecoblmjjmbhaaPAx3
namespace Go.Proofs.Yteecoblmjjmbhaa.PA
open Go.RowKit Go.Proofs.YteecoblmjjmbhaaW.PrintWords Go.Proofs.YteecoblmjjmbhaaW.PrintLast Go.Proofs.YteecoblmjjmbhaaW.PrintMore

theorem size_eq (a : Int) : arrasref1_Size.f a = some (pl a) := by
  unfold arrasref1_Size.f arrasref0_Num.f pl
  by_cases h : 0 ≤ a
  · rw [if_pos h]; simp [h]
  · rw [if_neg h]; simp [h]

end Go.Proofs.Yteecoblmjjmbhaa.PA
