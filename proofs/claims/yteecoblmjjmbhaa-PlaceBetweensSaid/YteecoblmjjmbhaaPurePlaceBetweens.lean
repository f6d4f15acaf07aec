/- The pure statement of PlaceBetweens: where each one of a line begins, in one way, is the page's, or refused. -/
import Derived.Test.YteecoblmjjmbhaaTellPlaceBetweens
import Derived.Test.YteecoblmjjmbhaaJustifiedA
namespace Go.Proofs.Yteecoblmjjmbhaa.TPlaceBetweens
open Go.RowKit Go.Proofs.YteecoblmjjmbhaaW.PrintWords Go.Proofs.Yteecoblmjjmbhaa.PA

/-- The law, over numbers and lists. -/
theorem pure : Pure := fun l _ => by
  obtain ⟨k, hk⟩ := justified l 3
  exact ⟨k, by simp only [arraslaw21_PlaceBetweens.f]; rw [hk]; rfl⟩
end Go.Proofs.Yteecoblmjjmbhaa.TPlaceBetweens
