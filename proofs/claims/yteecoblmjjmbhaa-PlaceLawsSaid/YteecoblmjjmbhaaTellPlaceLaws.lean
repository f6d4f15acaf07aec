/- The pure statement of the law PlaceLaws, and that what comes in is told by the kinds of the print. -/
import Derived.Test.YteecoblmjjmbhaaPAx21
import Derived.Test.YteecoblmjjmbhaaPAx0
import Derived.Test.YteecoblmjjmbhaaWRead
import Derived.KernelRfl
namespace Go.Proofs.Yteecoblmjjmbhaa.TPlaceLaws
open Go.RowKit Go.Proofs.YteecoblmjjmbhaaW.PrintWords Go.Proofs.YteecoblmjjmbhaaW.PrintLast Go.Proofs.Yteecoblmjjmbhaa Go.Proofs.Yteecoblmjjmbhaa.PA
/-- What is known of a struct that came in. -/
def phi27 (b : S27) : Prop := ((b.f0.length ≤ maxLen ∧ ∀ y ∈ b.f0, (Lit.int .i64 y).wf = true)) ∧ ((Lit.int .i64 b.f1).wf = true) ∧ ((Lit.int .i64 b.f2).wf = true) ∧ ((Lit.int .i64 b.f3).wf = true)
theorem told27 : Told Try.prog k27 27 phi27 :=
  told_struct (fun p => ⟨p.1, p.2.1, p.2.2.1, p.2.2.2⟩) (fun _ => rfl) Try.underlying27 (by kernel_rfl) (told_cons rfl (by kernel_rfl) (told_slice Try.underlying25 (by kernel_rfl) (told_int Try.underlying3)) (told_cons rfl (by kernel_rfl) (told_int Try.underlying3) (told_cons rfl (by kernel_rfl) (told_int Try.underlying3) (told_last rfl (by kernel_rfl) (told_int Try.underlying3)))))
def Pure : Prop := ∀ (l0 : List S27), (l0.length ≤ maxLen ∧ ∀ y ∈ l0, phi27 y) → ∃ k, pLaws.f k l0 = some true
end Go.Proofs.Yteecoblmjjmbhaa.TPlaceLaws
