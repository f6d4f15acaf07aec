/- Two digits of 32 bits by two: the long division of math/bits.Div64, in plain numbers. -/
namespace Go.Proofs.Ytdilliddflnbnaa.Div

/-- One digit: the guess q is not below the true one, and is one too great as long as its test says so. -/
theorem digit_high {b y1 y0 u n q r : Int} (hu : q * y1 + r = u) (_hr : 0 ≤ r) (h : q * y0 > b * r + n) : u * b + n < q * (y1 * b + y0) := by
  have e : q * (y1 * b + y0) = (q * y1) * b + q * y0 := by rw [Int.mul_add, Int.mul_assoc]
  have e2 : (q * y1) * b = u * b - r * b := by rw [← hu, Int.add_mul]; omega
  rw [e, e2, Int.mul_comm r b]
  omega
theorem digit_big {b y1 y0 u n q : Int} (hb : 0 < b) (hn : 0 ≤ n ∧ n < b) (hy : 0 < y1 * b + y0) (hu : u < y1 * b + y0) (h : b ≤ q) : u * b + n < q * (y1 * b + y0) := by
  have h1 : u * b + n < (u + 1) * b := by rw [Int.add_mul]; omega
  have h2 : (u + 1) * b ≤ (y1 * b + y0) * b := Int.mul_le_mul_of_nonneg_right (by omega) (by omega)
  have h3 : (y1 * b + y0) * b ≤ (y1 * b + y0) * q := Int.mul_le_mul_of_nonneg_left h (by omega)
  rw [Int.mul_comm q]
  omega
theorem digit_low {b y1 y0 u n q r : Int} (hu : q * y1 + r = u) (h : q * y0 ≤ b * r + n) : q * (y1 * b + y0) ≤ u * b + n := by
  have e : q * (y1 * b + y0) = (q * y1) * b + q * y0 := by rw [Int.mul_add, Int.mul_assoc]
  have e2 : (q * y1) * b = u * b - r * b := by rw [← hu, Int.add_mul]; omega
  rw [e, e2, Int.mul_comm r b]
  omega
/-- What is behind b needs no test any more. -/
theorem digit_rest {b y1 y0 u n q r : Int} (hb : 0 < b) (hn : 0 ≤ n) (hy0 : 0 ≤ y0 ∧ y0 < b) (hy1 : 0 ≤ y1) (hu : q * y1 + r = u) (hlt : u < y1 * b + y0) (hr : b ≤ r) : q < b ∧ q * y0 ≤ b * r + n := by
  have hqb : q < b := by
    by_cases h : q < b
    · exact h
    · have h1 : b * y1 ≤ q * y1 := Int.mul_le_mul_of_nonneg_right (by omega) hy1
      rw [Int.mul_comm b] at h1
      omega
  refine ⟨hqb, ?_⟩
  have h1 : q * y0 ≤ b * y0 := Int.mul_le_mul_of_nonneg_right (by omega) hy0.1
  have h2 : b * y0 ≤ b * r := Int.mul_le_mul_of_nonneg_left (by omega) (by omega)
  omega
/-- The guess that the high halves tell is not below the true digit. -/
theorem digit_guess {b y1 y0 u n q Q : Int} (hb : 0 < b) (hn : 0 ≤ n ∧ n < b) (hy1 : 0 < y1) (hy0 : 0 ≤ y0) (hQ0 : 0 ≤ Q) (hQ : Q * (y1 * b + y0) ≤ u * b + n) (hq : u < (q + 1) * y1) : Q ≤ q := by
  have e : Q * (y1 * b + y0) = (Q * y1) * b + Q * y0 := by rw [Int.mul_add, Int.mul_assoc]
  have h0 := Int.mul_nonneg hQ0 hy0
  have h1 : (Q * y1) * b < (u + 1) * b := by rw [Int.add_mul]; omega
  have h2 : Q * y1 < u + 1 := Int.lt_of_mul_lt_mul_right h1 (by omega)
  have h3 : Q * y1 < (q + 1) * y1 := by omega
  have := Int.lt_of_mul_lt_mul_right h3 (by omega)
  omega
end Go.Proofs.Ytdilliddflnbnaa.Div
