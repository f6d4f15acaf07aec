/- The pure statement of PlaceMiddles: where one stands across its line, in one way, is the page's, or refused. -/
import Derived.Test.YteecoblmjjmbhabTellPlaceMiddles
import Derived.Test.YteecoblmjjmbhabAlignedA
namespace Go.Proofs.Yteecoblmjjmbhab.TPlaceMiddles
open Go.RowKit Go.Proofs.YteecoblmjjmbhabW.PrintWords Go.Proofs.Yteecoblmjjmbhab.PA

/-- The law, over numbers and lists. -/
theorem pure : Pure := fun l _ => by
  obtain ⟨k, hk⟩ := aligned l 3
  exact ⟨k, by simp only [arraslaw21_PlaceMiddles.f]; rw [hk]; rfl⟩
end Go.Proofs.Yteecoblmjjmbhab.TPlaceMiddles
