/- What the printed Has, Join, Meet come to, and the reference's. -/
import Derived.Test.YtdpeeinmckohgaaPointsC
import Derived.Test.YtdpeeinmckohgaaPCx13
namespace Go.Proofs.Ytdpeeinmckohgaa.PC
open Go Go.RowKit Go.Proofs.YtdpeeinmckohgaaW.PrintWords Go.Proofs.YtdpeeinmckohgaaW.PrintLast Go.Proofs.YtdpeeinmckohgaaW.PrintMore Go.Proofs.Ytdpeeinmckohgaa.F64

theorem wl (n : Nat) (h : n ≤ 1000) : wrap64 ((n : Nat) : Int) = (n : Int) := w64' (by omega) (by omega)
theorem w1 : wrap64 1 = 1 := wl 1 (by omega)
theorem w2 : wrap64 2 = 2 := wl 2 (by omega)
theorem w3 : wrap64 3 = 3 := wl 3 (by omega)
theorem w4 : wrap64 4 = 4 := wl 4 (by omega)
theorem w5 : wrap64 5 = 5 := wl 5 (by omega)
theorem far_nil {k : Nat} (hk : 1 ≤ k) : point_far.f k [] [] = some ([], [], true) := by
  obtain ⟨m, rfl⟩ : ∃ m, k = m + 1 := ⟨k - 1, by omega⟩
  simp [point_far.f, point_far.l0, w1]
/-- The far corners' lists. -/
def neg2 (x y : Int) : Prop := x < 0 ∨ y < 0
instance (x y : Int) : Decidable (neg2 x y) := by unfold neg2; infer_instance
theorem far3 {x0 x1 x2 y0 y1 y2 : Int} (a0 : Cd x0) (a1 : Cd x1) (b0 : Cd y0) (b1 : Cd y1) {k : Nat} (hk : 6 ≤ k) : point_far.f k [x0, x1, x2] [y0, y1, y2] = some (if neg2 x1 y1 then ([], [], false) else ([sat (x0 + x1)], [sat (y0 + y1)], true)) := by
  obtain ⟨m, rfl⟩ : ∃ m, k = m + 6 := ⟨k - 6, by omega⟩
  have p1 := plus1 a0 a1 (k := m + 4) (by omega)
  have p2 := plus1 b0 b1 (k := m + 4) (by omega)
  unfold neg2
  by_cases h1 : x1 < 0
  · simp [point_far.f, point_far.l0, point_far.j1, w1, rd, h1]
  · by_cases h2 : y1 < 0
    · simp [point_far.f, point_far.l0, point_far.j1, w1, rd, h1, h2]
    · simp [point_far.f, point_far.l0, point_far.j1, w1, w2, w3, rd, h1, h2, p1, p2]
theorem far4 {x0 x1 x2 x3 y0 y1 y2 y3 : Int} (a0 : Cd x0) (a1 : Cd x1) (b0 : Cd y0) (b1 : Cd y1) (a2 : Cd x2) (a3 : Cd x3) (b2 : Cd y2) (b3 : Cd y3) {k : Nat} (hk : 8 ≤ k) :
    point_far.f k [x0, x1, x2, x3] [y0, y1, y2, y3] = some (if neg2 x1 y1 ∨ neg2 x3 y3 then ([], [], false) else ([sat (x0 + x1), sat (x2 + x3)], [sat (y0 + y1), sat (y2 + y3)], true)) := by
  obtain ⟨m, rfl⟩ : ∃ m, k = m + 8 := ⟨k - 8, by omega⟩
  have p1 := plus1 a0 a1 (k := m + 6) (by omega)
  have p2 := plus1 b0 b1 (k := m + 6) (by omega)
  have p3 := plus1 a2 a3 (k := m + 4) (by omega)
  have p4 := plus1 b2 b3 (k := m + 4) (by omega)
  unfold neg2
  by_cases h1 : x1 < 0
  · simp [point_far.f, point_far.l0, point_far.j1, w1, rd, h1]
  · by_cases h2 : y1 < 0
    · simp [point_far.f, point_far.l0, point_far.j1, w1, rd, h1, h2]
    · by_cases h3 : x3 < 0
      · simp [point_far.f, point_far.l0, point_far.j1, w1, w2, w3, rd, h1, h2, h3, p1, p2]
      · by_cases h4 : y3 < 0
        · simp [point_far.f, point_far.l0, point_far.j1, w1, w2, w3, rd, h1, h2, h3, h4, p1, p2]
        · simp [point_far.f, point_far.l0, point_far.j1, w1, w2, w3, w4, w5, rd, h1, h2, h3, h4, p1, p2, p3, p4]

theorem all3 (c s p : C128) : [c, s, p].all okP = (okP c && okP s && okP p) := by simp [Bool.and_assoc]
theorem all4 (a s b t : C128) : [a, s, b, t].all okP = (okP a && okP s && okP b && okP t) := by simp [Bool.and_assoc]
end Go.Proofs.Ytdpeeinmckohgaa.PC
