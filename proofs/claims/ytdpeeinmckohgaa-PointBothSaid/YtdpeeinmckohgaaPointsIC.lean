/- What the printed Has comes to (PointsH without the reference's). -/
import Derived.Test.YtdpeeinmckohgaaPointsFC
import Derived.Test.YtdpeeinmckohgaaPCx14
namespace Go.Proofs.Ytdpeeinmckohgaa.PC
open Go Go.RowKit Go.Proofs.YtdpeeinmckohgaaW.PrintWords Go.Proofs.YtdpeeinmckohgaaW.PrintLast Go.Proofs.YtdpeeinmckohgaaW.PrintMore Go.Proofs.Ytdpeeinmckohgaa.F64

/-- What Has answers. -/
def hasS (c s p : C128) : Bool := decide (X c ≤ X p) && decide (Y c ≤ Y p) && decide (X p < sat (X c + X s)) && decide (Y p < sat (Y c + Y s))
theorem has_eq (c s p : C128) {k : Nat} (hk : 10 ≤ k) : point_Has.f k c s p = some (if okB c s = true ∧ okP p = true then (hasS c s p, 0) else (false, 1)) := by
  unfold point_Has.f
  rw [halves_eq _ (by simp) (by simp; omega), Option.bind_some, all3]
  by_cases hc : okP c = true ∧ okP s = true ∧ okP p = true
  · obtain ⟨h1, h2, h3⟩ := hc
    have c1 := okP_cd h1
    have c2 := okP_cd h2
    rw [h1, h2, h3]
    simp only [Bool.and_true, if_true, List.map_cons, List.map_nil]
    rw [far3 c1.1 c2.1 c1.2.1 c2.2.1 (by omega), Option.bind_some]
    by_cases hn : neg2 (X s) (Y s)
    · have hb : okB c s = false := by
        cases h : okB c s
        · rfl
        · have := okB_iff.1 h
          unfold neg2 at hn
          omega
      rw [if_pos hn, hb]
      simp
    · have hb : okB c s = true := okB_iff.2 ⟨h1, h2, by unfold neg2 at hn; omega, by unfold neg2 at hn; omega⟩
      rw [if_neg hn, hb]
      simp only [and_self, if_true]
      unfold hasS
      by_cases g1 : X c ≤ X p
      · by_cases g2 : Y c ≤ Y p
        · by_cases g3 : X p < sat (X c + X s)
          · simp [rd, g1, g2, g3]
          · simp [rd, g1, g2, g3]
        · simp [rd, g1, g2]
      · simp [rd, g1]
  · have hf : (okP c && okP s && okP p) = false := by
      cases h1 : okP c <;> cases h2 : okP s <;> cases h3 : okP p <;> simp_all
    have hb : ¬ (okB c s = true ∧ okP p = true) := by
      rintro ⟨h1, h2⟩
      have := okB_iff.1 h1
      exact hc ⟨this.1, this.2.1, h2⟩
    rw [hf, if_neg hb, if_neg (by simp), far_nil (by omega), Option.bind_some]
    simp
end Go.Proofs.Ytdpeeinmckohgaa.PC
