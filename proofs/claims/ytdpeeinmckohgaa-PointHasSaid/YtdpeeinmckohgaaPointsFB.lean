/- What the printed Has, Join, Meet come to, and the reference's. -/
import Derived.Test.YtdpeeinmckohgaaPointsB
import Derived.Test.YtdpeeinmckohgaaPBx4
import Derived.Test.YtdpeeinmckohgaaPBx5
import Derived.Test.YtdpeeinmckohgaaPBx6
namespace Go.Proofs.Ytdpeeinmckohgaa.PB
open Go Go.RowKit Go.Proofs.YtdpeeinmckohgaaW.PrintWords Go.Proofs.YtdpeeinmckohgaaW.PrintLast Go.Proofs.YtdpeeinmckohgaaW.PrintMore Go.Proofs.Ytdpeeinmckohgaa.F64

theorem wl (n : Nat) (h : n ≤ 1000) : wrap64 ((n : Nat) : Int) = (n : Int) := w64' (by omega) (by omega)
theorem w1 : wrap64 1 = 1 := wl 1 (by omega)
theorem w2 : wrap64 2 = 2 := wl 2 (by omega)
theorem w3 : wrap64 3 = 3 := wl 3 (by omega)
theorem w4 : wrap64 4 = 4 := wl 4 (by omega)
theorem w5 : wrap64 5 = 5 := wl 5 (by omega)
theorem far_nil {k : Nat} (hk : 1 ≤ k) : point_far.f k [] [] = some ([], [], true) := by
  obtain ⟨m, rfl⟩ : ∃ m, k = m + 1 := ⟨k - 1, by omega⟩
  simp [point_far.f, point_far.l0, w1]
/-- The far corners' lists. -/
def neg2 (x y : Int) : Prop := x < 0 ∨ y < 0
instance (x y : Int) : Decidable (neg2 x y) := by unfold neg2; infer_instance
theorem far3 {x0 x1 x2 y0 y1 y2 : Int} (a0 : Cd x0) (a1 : Cd x1) (b0 : Cd y0) (b1 : Cd y1) {k : Nat} (hk : 6 ≤ k) : point_far.f k [x0, x1, x2] [y0, y1, y2] = some (if neg2 x1 y1 then ([], [], false) else ([sat (x0 + x1)], [sat (y0 + y1)], true)) := by
  obtain ⟨m, rfl⟩ : ∃ m, k = m + 6 := ⟨k - 6, by omega⟩
  have p1 := plus1 a0 a1 (k := m + 4) (by omega)
  have p2 := plus1 b0 b1 (k := m + 4) (by omega)
  unfold neg2
  by_cases h1 : x1 < 0
  · simp [point_far.f, point_far.l0, point_far.j1, w1, rd, h1]
  · by_cases h2 : y1 < 0
    · simp [point_far.f, point_far.l0, point_far.j1, w1, rd, h1, h2]
    · simp [point_far.f, point_far.l0, point_far.j1, w1, w2, w3, rd, h1, h2, p1, p2]
theorem far4 {x0 x1 x2 x3 y0 y1 y2 y3 : Int} (a0 : Cd x0) (a1 : Cd x1) (b0 : Cd y0) (b1 : Cd y1) (a2 : Cd x2) (a3 : Cd x3) (b2 : Cd y2) (b3 : Cd y3) {k : Nat} (hk : 8 ≤ k) :
    point_far.f k [x0, x1, x2, x3] [y0, y1, y2, y3] = some (if neg2 x1 y1 ∨ neg2 x3 y3 then ([], [], false) else ([sat (x0 + x1), sat (x2 + x3)], [sat (y0 + y1), sat (y2 + y3)], true)) := by
  obtain ⟨m, rfl⟩ : ∃ m, k = m + 8 := ⟨k - 8, by omega⟩
  have p1 := plus1 a0 a1 (k := m + 6) (by omega)
  have p2 := plus1 b0 b1 (k := m + 6) (by omega)
  have p3 := plus1 a2 a3 (k := m + 4) (by omega)
  have p4 := plus1 b2 b3 (k := m + 4) (by omega)
  unfold neg2
  by_cases h1 : x1 < 0
  · simp [point_far.f, point_far.l0, point_far.j1, w1, rd, h1]
  · by_cases h2 : y1 < 0
    · simp [point_far.f, point_far.l0, point_far.j1, w1, rd, h1, h2]
    · by_cases h3 : x3 < 0
      · simp [point_far.f, point_far.l0, point_far.j1, w1, w2, w3, rd, h1, h2, h3, p1, p2]
      · by_cases h4 : y3 < 0
        · simp [point_far.f, point_far.l0, point_far.j1, w1, w2, w3, rd, h1, h2, h3, h4, p1, p2]
        · simp [point_far.f, point_far.l0, point_far.j1, w1, w2, w3, w4, w5, rd, h1, h2, h3, h4, p1, p2, p3, p4]

/-- What Has answers. -/
def hasS (c s p : C128) : Bool := decide (X c ≤ X p) && decide (Y c ≤ Y p) && decide (X p < sat (X c + X s)) && decide (Y p < sat (Y c + Y s))
theorem all3 (c s p : C128) : [c, s, p].all okP = (okP c && okP s && okP p) := by simp [Bool.and_assoc]
theorem all4 (a s b t : C128) : [a, s, b, t].all okP = (okP a && okP s && okP b && okP t) := by simp [Bool.and_assoc]
theorem has_eq (c s p : C128) {k : Nat} (hk : 10 ≤ k) : point_Has.f k c s p = some (if okB c s = true ∧ okP p = true then (hasS c s p, 0) else (false, 1)) := by
  unfold point_Has.f
  rw [halves_eq _ (by simp) (by simp; omega), Option.bind_some, all3]
  by_cases hc : okP c = true ∧ okP s = true ∧ okP p = true
  · obtain ⟨h1, h2, h3⟩ := hc
    have c1 := okP_cd h1
    have c2 := okP_cd h2
    rw [h1, h2, h3]
    simp only [Bool.and_true, if_true, List.map_cons, List.map_nil]
    rw [far3 c1.1 c2.1 c1.2.1 c2.2.1 (by omega), Option.bind_some]
    by_cases hn : neg2 (X s) (Y s)
    · have hb : okB c s = false := by
        cases h : okB c s
        · rfl
        · have := okB_iff.1 h
          unfold neg2 at hn
          omega
      rw [if_pos hn, hb]
      simp
    · have hb : okB c s = true := okB_iff.2 ⟨h1, h2, by unfold neg2 at hn; omega, by unfold neg2 at hn; omega⟩
      rw [if_neg hn, hb]
      simp only [and_self, if_true]
      unfold hasS
      by_cases g1 : X c ≤ X p
      · by_cases g2 : Y c ≤ Y p
        · by_cases g3 : X p < sat (X c + X s)
          · simp [rd, g1, g2, g3]
          · simp [rd, g1, g2, g3]
        · simp [rd, g1, g2]
      · simp [rd, g1]
  · have hf : (okP c && okP s && okP p) = false := by
      cases h1 : okP c <;> cases h2 : okP s <;> cases h3 : okP p <;> simp_all
    have hb : ¬ (okB c s = true ∧ okP p = true) := by
      rintro ⟨h1, h2⟩
      have := okB_iff.1 h1
      exact hc ⟨this.1, this.2.1, h2⟩
    rw [hf, if_neg hb, if_neg (by simp), far_nil (by omega), Option.bind_some]
    simp
theorem refHas_eq {c s p : C128} (hb : okB c s = true) (hp : okP p = true) : arrasref3_Has.f c s p = some (hasS c s p) := by
  obtain ⟨h1, h2, h3, h4⟩ := okB_iff.1 hb
  have c1 := okP_cd h1
  have c2 := okP_cd h2
  have hf := okP_pt (cd_sat (X c + X s)) (cd_sat (Y c + Y s))
  unfold arrasref3_Has.f hasS
  rw [refAdd_eq h1 h2, Option.bind_some, X_eq hp, Option.bind_some, X_eq h1, Option.bind_some]
  by_cases g1 : X c ≤ X p
  · rw [if_pos (by omega), Y_eq hp, Option.bind_some, Y_eq h1, Option.bind_some]
    by_cases g2 : Y c ≤ Y p
    · rw [if_pos (by omega), Option.bind_some, X_eq hf, Option.bind_some, X_pt (cd_sat _)]
      by_cases g3 : X p < sat (X c + X s)
      · rw [if_pos g3, Option.bind_some, Y_eq hf, Option.bind_some, Y_pt (cd_sat _)]
        simp [g1, g2, g3]
      · rw [if_neg g3]; simp [g3]
    · rw [if_neg (by omega)]; simp [g2]
  · rw [if_neg (by omega)]; simp [g1]
end Go.Proofs.Ytdpeeinmckohgaa.PB
