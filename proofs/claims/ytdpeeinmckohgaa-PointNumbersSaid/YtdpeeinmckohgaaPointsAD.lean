/- What the printed Parts, Add, Sub come to, and the law's look at an answer. -/
import Derived.Test.YtdpeeinmckohgaaPointsD
import Derived.Test.YtdpeeinmckohgaaPDx1
import Derived.Test.YtdpeeinmckohgaaPDx11
import Derived.Test.YtdpeeinmckohgaaPDx2
import Derived.Test.YtdpeeinmckohgaaPDx4
import Derived.Test.YtdpeeinmckohgaaPDx9
namespace Go.Proofs.Ytdpeeinmckohgaa.PD
open Go Go.RowKit Go.Proofs.YtdpeeinmckohgaaW.PrintWords Go.Proofs.YtdpeeinmckohgaaW.PrintLast Go.Proofs.YtdpeeinmckohgaaW.PrintMore Go.Proofs.Ytdpeeinmckohgaa.F64

theorem told_yes {x y : Int} (hx : Cd x) (hy : Cd y) : arraslaw3_told.f (pt x y) 0 true (pt x y) = some true := by
  unfold arraslaw3_told.f
  simp only [if_true, arraslaw3_num.f, Option.bind_some]
  rw [if_pos (by unfold pt; simp [feq_refl hx, feq_refl hy]), clean_eq hx hy]
  rfl
theorem told_no (w : C128) : arraslaw3_told.f ((0, 0) : C128) 1 false w = some true := by
  unfold arraslaw3_told.f
  simp only [arraslaw3_num.f, Option.bind_some, Bool.false_eq_true, if_false, if_true]
  rw [feq00]
  rfl

theorem parts_eq (p : C128) {k : Nat} (hk : 2 ≤ k) : point_Parts.f k p = some (if okP p = true then (X p, Y p, 0) else (0, 0, 1)) := by
  unfold point_Parts.f
  rw [halves_eq _ (by simp) (by simpa using hk)]
  simp only [Option.bind_some]
  by_cases h : okP p = true
  · simp [h, rd]
  · simp [h]
theorem add_eq (p q : C128) {k : Nat} (hk : 3 ≤ k) : point_Add.f k p q = some (if okP p = true ∧ okP q = true then (pt (sat (X p + X q)) (sat (Y p + Y q)), 0) else (((0, 0) : C128), 1)) := by
  unfold point_Add.f
  rw [halves_eq _ (by simp) (by simpa using hk)]
  simp only [Option.bind_some]
  by_cases h : okP p = true ∧ okP q = true
  · have c1 := okP_cd h.1
    have c2 := okP_cd h.2
    have e1 := plus1 c1.1 c2.1 (k := k) (by omega)
    have e2 := plus1 c1.2.1 c2.2.1 (k := k) (by omega)
    simp [h.1, h.2, rd, make_eq, e1, e2]
  · have : ([p, q].all okP) = false := by
      cases h1 : okP p <;> cases h2 : okP q <;> simp_all
    rw [this, if_neg (by simp), if_neg h]
theorem sub_eq (p q : C128) {k : Nat} (hk : 3 ≤ k) : point_Sub.f k p q = some (if okP p = true ∧ okP q = true then (pt (sat (X p - X q)) (sat (Y p - Y q)), 0) else (((0, 0) : C128), 1)) := by
  unfold point_Sub.f
  rw [halves_eq _ (by simp) (by simpa using hk)]
  simp only [Option.bind_some]
  by_cases h : okP p = true ∧ okP q = true
  · have c1 := okP_cd h.1
    have c2 := okP_cd h.2
    have e1 := minus1 c1.1 c2.1
    have e2 := minus1 c1.2.1 c2.2.1
    simp [h.1, h.2, rd, make_eq, e1, e2]
  · have : ([p, q].all okP) = false := by
      cases h1 : okP p <;> cases h2 : okP q <;> simp_all
    rw [this, if_neg (by simp), if_neg h]
end Go.Proofs.Ytdpeeinmckohgaa.PD
