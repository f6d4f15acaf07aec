/- The pure statement of the law FlexPlains, and that what comes in is told by the kinds of the print. -/
import Derived.Test.YtjjlmmebkemlgaaPGx2
import Derived.Test.YtjjlmmebkemlgaaPGx0
import Derived.Test.YtjjlmmebkemlgaaWReadZ
import Derived.KernelRfl
namespace Go.Proofs.Ytjjlmmebkemlgaa.TFlexPlains
open Go.RowKit Go.Proofs.YtjjlmmebkemlgaaW.PrintWords Go.Proofs.YtjjlmmebkemlgaaW.PrintLast Go.Proofs.Ytjjlmmebkemlgaa Go.Proofs.Ytjjlmmebkemlgaa.PG
/-- What is known of a struct that came in. -/
def phi46 (b : S46) : Prop := ((Lit.int .i64 b.f0).wf = true) ∧ ((Lit.int .i64 b.f1).wf = true) ∧ ((Lit.int .i64 b.f2).wf = true) ∧ ((Lit.int .i64 b.f3).wf = true) ∧ ((Lit.int .i64 b.f4).wf = true)
theorem told46 : ToldZ Try.prog k46 46 phi46 :=
  toldz_struct (fun p => ⟨p.1, p.2.1, p.2.2.1, p.2.2.2.1, p.2.2.2.2⟩) (fun _ => rfl) Try.underlying46 (by kernel_rfl) (toldz_cons rfl (by kernel_rfl) (toldz_of (told_int Try.underlying3)) (toldz_cons rfl (by kernel_rfl) (toldz_of (told_int Try.underlying3)) (toldz_cons rfl (by kernel_rfl) (toldz_of (told_int Try.underlying3)) (toldz_cons rfl (by kernel_rfl) (toldz_of (told_int Try.underlying3)) (toldz_last rfl (by kernel_rfl) (toldz_of (told_int Try.underlying3)))))))
/-- What is known of a struct that came in. -/
def phi41 (b : S41) : Prop := ((b.f0.length * 40 ≤ reachBytes ∧ b.f0.length ≤ maxLen ∧ ∀ y ∈ b.f0, phi46 y)) ∧ ((Lit.int .i64 b.f1).wf = true) ∧ ((Lit.int .i64 b.f2).wf = true)
theorem told41 : ToldZ Try.prog k41 41 phi41 :=
  toldz_struct (fun p => ⟨p.1, p.2.1, p.2.2⟩) (fun _ => rfl) Try.underlying41 (by kernel_rfl) (toldz_cons rfl (by kernel_rfl) (toldz_slice Try.underlying39 (by kernel_rfl) (b := 40) (by kernel_rfl) told46) (toldz_cons rfl (by kernel_rfl) (toldz_of (told_int Try.underlying3)) (toldz_last rfl (by kernel_rfl) (toldz_of (told_int Try.underlying3)))))
def Pure : Prop := ∀ (l0 : List S41), (l0.length * 40 ≤ reachBytes ∧ l0.length ≤ maxLen ∧ ∀ y ∈ l0, phi41 y) → ∃ k, arraslaw20_FlexPlains.f k l0 = some true
end Go.Proofs.Ytjjlmmebkemlgaa.TFlexPlains
