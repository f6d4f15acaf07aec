/- The pure statement of the law PointNumbers, and that what comes in is told by the kinds of the print. -/
import Derived.Test.YtdpeeinmckohgaaPDx7
import Derived.Test.YtdpeeinmckohgaaPDx0
import Derived.Test.YtdpeeinmckohgaaWReadZ
import Derived.KernelRfl
namespace Go.Proofs.Ytdpeeinmckohgaa.TPointNumbers
open Go.RowKit Go.Proofs.YtdpeeinmckohgaaW.PrintWords Go.Proofs.YtdpeeinmckohgaaW.PrintLast Go.Proofs.Ytdpeeinmckohgaa Go.Proofs.Ytdpeeinmckohgaa.PD
/-- What is known of an array that came in. -/
def phi24 (b : S24) : Prop := ((Lit.float .f64 b.f0).wf = true) ∧ ((Lit.float .f64 b.f1).wf = true) ∧ ((Lit.float .f64 b.f2).wf = true) ∧ ((Lit.float .f64 b.f3).wf = true) ∧ ((Lit.float .f64 b.f4).wf = true) ∧ ((Lit.float .f64 b.f5).wf = true) ∧ ((Lit.float .f64 b.f6).wf = true) ∧ ((Lit.float .f64 b.f7).wf = true)
def fields24 : List Field := [{ (default : Field) with type := 23, offset := 0 }, { (default : Field) with type := 23, offset := 1 }, { (default : Field) with type := 23, offset := 2 }, { (default : Field) with type := 23, offset := 3 }, { (default : Field) with type := 23, offset := 4 }, { (default : Field) with type := 23, offset := 5 }, { (default : Field) with type := 23, offset := 6 }, { (default : Field) with type := 23, offset := 7 }]
theorem told24_at (j : Nat) (f : Field) (h : fields24[j]? = some f) : f.type = 23 ∧ f.offset = j * Try.prog.cellsOf 23 := by
  have hc : Try.prog.cellsOf 23 = 1 := by kernel_rfl
  rw [hc]
  have hl := (List.getElem?_eq_some_iff.1 h).1
  simp only [fields24, List.length_cons, List.length_nil] at hl
  have hj : j = 0 ∨ j = 1 ∨ j = 2 ∨ j = 3 ∨ j = 4 ∨ j = 5 ∨ j = 6 ∨ j = 7 := by omega
  rcases hj with rfl | rfl | rfl | rfl | rfl | rfl | rfl | rfl
  all_goals (simp [fields24] at h; subst h; exact ⟨rfl, rfl⟩)
theorem told24 : ToldZ Try.prog k24 24 phi24 :=
  toldz_array (fs := fields24) (fun p => ⟨p.1, p.2.1, p.2.2.1, p.2.2.2.1, p.2.2.2.2.1, p.2.2.2.2.2.1, p.2.2.2.2.2.2.1, p.2.2.2.2.2.2.2⟩) (fun _ => rfl) Try.underlying24 (by kernel_rfl) rfl told24_at (toldz_cons rfl (by kernel_rfl) (toldz_of (told_float (K := Kd.f64) (fun _ _ _ => Iff.rfl) Try.underlying23)) (toldz_cons rfl (by kernel_rfl) (toldz_of (told_float (K := Kd.f64) (fun _ _ _ => Iff.rfl) Try.underlying23)) (toldz_cons rfl (by kernel_rfl) (toldz_of (told_float (K := Kd.f64) (fun _ _ _ => Iff.rfl) Try.underlying23)) (toldz_cons rfl (by kernel_rfl) (toldz_of (told_float (K := Kd.f64) (fun _ _ _ => Iff.rfl) Try.underlying23)) (toldz_cons rfl (by kernel_rfl) (toldz_of (told_float (K := Kd.f64) (fun _ _ _ => Iff.rfl) Try.underlying23)) (toldz_cons rfl (by kernel_rfl) (toldz_of (told_float (K := Kd.f64) (fun _ _ _ => Iff.rfl) Try.underlying23)) (toldz_cons rfl (by kernel_rfl) (toldz_of (told_float (K := Kd.f64) (fun _ _ _ => Iff.rfl) Try.underlying23)) (toldz_last rfl (by kernel_rfl) (toldz_of (told_float (K := Kd.f64) (fun _ _ _ => Iff.rfl) Try.underlying23))))))))))
/-- What is known of a struct that came in. -/
def phi26 (b : S26) : Prop := ((Lit.int .i64 b.f0).wf = true) ∧ ((Lit.int .i64 b.f1).wf = true) ∧ (phi24 b.f2)
theorem told26 : ToldZ Try.prog k26 26 phi26 :=
  toldz_struct (fun p => ⟨p.1, p.2.1, p.2.2⟩) (fun _ => rfl) Try.underlying26 (by kernel_rfl) (toldz_cons rfl (by kernel_rfl) (toldz_of (told_int Try.underlying3)) (toldz_cons rfl (by kernel_rfl) (toldz_of (told_int Try.underlying3)) (toldz_last rfl (by kernel_rfl) told24)))
def Pure : Prop := ∀ (l0 : List S26), (l0.length * 80 ≤ reachBytes ∧ l0.length ≤ maxLen ∧ ∀ y ∈ l0, phi26 y) → ∃ k, arraslaw3_PointNumbers.f k l0 = some true
end Go.Proofs.Ytdpeeinmckohgaa.TPointNumbers
