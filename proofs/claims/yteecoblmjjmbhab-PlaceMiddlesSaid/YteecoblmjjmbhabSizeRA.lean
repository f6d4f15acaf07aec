/- The reference's Size. -/
import Derived.Test.YteecoblmjjmbhabBasicsA
import Derived.Test.YteecoblmjjmbhabPAx0
import Derived.Test.YteecoblmjjmbhabPAx2
namespace Go.Proofs.Yteecoblmjjmbhab.PA
open Go.RowKit Go.Proofs.YteecoblmjjmbhabW.PrintWords Go.Proofs.YteecoblmjjmbhabW.PrintLast Go.Proofs.YteecoblmjjmbhabW.PrintMore

theorem size_eq (a : Int) : arrasref1_Size.f a = some (pl a) := by
  unfold arrasref1_Size.f arrasref0_Num.f pl
  by_cases h : 0 ≤ a
  · rw [if_pos h]; simp [h]
  · rw [if_neg h]; simp [h]

end Go.Proofs.Yteecoblmjjmbhab.PA
