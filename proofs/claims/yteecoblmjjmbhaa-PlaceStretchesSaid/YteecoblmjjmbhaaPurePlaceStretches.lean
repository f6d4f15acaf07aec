/- The pure statement of PlaceStretches: where one stands across its line, in one way, is the page's, or refused. -/
import Derived.Test.YteecoblmjjmbhaaTellPlaceStretches
import Derived.Test.YteecoblmjjmbhaaAlignedA
namespace Go.Proofs.Yteecoblmjjmbhaa.TPlaceStretches
open Go.RowKit Go.Proofs.YteecoblmjjmbhaaW.PrintWords Go.Proofs.Yteecoblmjjmbhaa.PA

/-- The law, over numbers and lists. -/
theorem pure : Pure := fun l _ => by
  obtain ⟨k, hk⟩ := aligned l 0
  exact ⟨k, by simp only [arraslaw21_PlaceStretches.f]; rw [hk]; rfl⟩
end Go.Proofs.Yteecoblmjjmbhaa.TPlaceStretches
