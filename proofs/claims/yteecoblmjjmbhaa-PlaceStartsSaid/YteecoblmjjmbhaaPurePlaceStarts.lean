/- The pure statement of PlaceStarts: where each one of a line begins, in one way, is the page's, or refused. -/
import Derived.Test.YteecoblmjjmbhaaTellPlaceStarts
import Derived.Test.YteecoblmjjmbhaaJustifiedA
namespace Go.Proofs.Yteecoblmjjmbhaa.TPlaceStarts
open Go.RowKit Go.Proofs.YteecoblmjjmbhaaW.PrintWords Go.Proofs.Yteecoblmjjmbhaa.PA

/-- The law, over numbers and lists. -/
theorem pure : Pure := fun l _ => by
  obtain ⟨k, hk⟩ := justified l 0
  exact ⟨k, by simp only [arraslaw21_PlaceStarts.f]; rw [hk]; rfl⟩
end Go.Proofs.Yteecoblmjjmbhaa.TPlaceStarts
