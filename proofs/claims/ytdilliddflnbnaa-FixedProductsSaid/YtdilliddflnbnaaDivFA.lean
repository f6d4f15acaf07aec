/- math/bits.Div64 and Mul64, as the printed functions tell them: the quotient and the rest, the two halves of a product. -/
import Derived.Test.YtdilliddflnbnaaBasicsA
import Derived.Test.YtdilliddflnbnaaDivA
import Derived.Laws.BitsAllLaws
import Derived.Test.YtdilliddflnbnaaPAx9
namespace Go.Proofs.Ytdilliddflnbnaa.PA
open Go.RowKit Go.Proofs.YtdilliddflnbnaaW.PrintWords Go.Proofs.YtdilliddflnbnaaW.PrintLast Go.Proofs.YtdilliddflnbnaaW.PrintMore Go.Proofs.Ytdilliddflnbnaa.Div

theorem u64w (x : Int) : IntKind.u64.wrap x = x % 18446744073709551616 := rfl
theorem u64in {x : Int} (h0 : 0 ≤ x) (h1 : x < 18446744073709551616) : IntKind.u64.wrap x = x := by rw [u64w]; omega
theorem mul_bd {a b A B : Int} (ha : 0 ≤ a ∧ a ≤ A) (hb : 0 ≤ b ∧ b ≤ B) : 0 ≤ a * b ∧ a * b ≤ A * B := ⟨Int.mul_nonneg ha.1 hb.1, Int.mul_le_mul ha.2 hb.2 hb.1 (by omega)⟩

section
variable (y s y1 y0 : Int) (hy : y = y1 * 4294967296 + y0) (hy1 : 2147483648 ≤ y1 ∧ y1 < 4294967296) (hy0 : 0 ≤ y0 ∧ y0 < 4294967296)
include hy hy1 hy0

/-- The second digit, and with it the answer. -/
theorem second (n Q1 u : Int) (hn : 0 ≤ n ∧ n < 4294967296) (hu : 0 ≤ u ∧ u < y) (hQ1 : 0 ≤ Q1 ∧ Q1 < 4294967296) (hs : 0 ≤ s) (Q : Int) (hQ0 : 0 ≤ Q) (hQ : Q * y ≤ u * 4294967296 + n) (hQ' : u * 4294967296 + n < Q * y + y) :
    ∀ (m : Nat) (q r : Int) (k : Nat), 4294967296 ≤ r + m * 2147483648 → q * y1 + r = u → (0 ≤ r ∧ r < 4294967296) → Q ≤ q → q ≤ 8589934592 → 2 * m + 3 ≤ k →
      bits_Div64.l1 k y s y1 y0 n Q1 r u q = some (Q1 * 4294967296 + Q, shr .u64 (u * 4294967296 + n - Q * y) s) := by
  have hyy : 0 < y := by omega
  have hfin : ∀ q : Int, q = Q → IntKind.u64.wrap (IntKind.u64.wrap (Q1 * 4294967296) + q) = Q1 * 4294967296 + Q ∧ IntKind.u64.wrap (IntKind.u64.wrap (IntKind.u64.wrap (u * 4294967296) + n) - IntKind.u64.wrap (q * y)) = u * 4294967296 + n - Q * y := by
    intro q hq
    subst hq
    have hqb : q < 4294967296 := by
      by_cases h : q < 4294967296
      · exact h
      · have := digit_big (b := 4294967296) (y1 := y1) (y0 := y0) (u := u) (n := n) (q := q) (by omega) hn (by omega) (by omega) (by omega)
        rw [← hy] at this
        omega
    rw [u64w, u64w, u64w, u64w, u64w, u64w]
    generalize q * y = P at hQ hQ'
    constructor
    · omega
    · omega
  intro m
  induction m with
  | zero => intro q r k hm _ hr; omega
  | succ m ih =>
    intro q r k hm hqr hr hQq hq33 hk
    obtain ⟨k, rfl⟩ : ∃ z, k = z + 2 := ⟨k - 2, by omega⟩
    -- the test, and what it says
    have htest : (q ≥ 4294967296 ∨ (q < 4294967296 ∧ q * y0 > 4294967296 * r + n)) → bits_Div64.j4 (k + 1) y s y1 y0 n Q1 r u q true = some (Q1 * 4294967296 + Q, shr .u64 (u * 4294967296 + n - Q * y) s) := by
      intro h
      have hgt : u * 4294967296 + n < q * y := by
        rw [hy]
        rcases h with h | ⟨_, h⟩
        · exact digit_big (by omega) hn (by omega) (by omega) (by omega)
        · exact digit_high hqr hr.1 h
      have hQq' : Q < q := by
        by_cases c : Q < q
        · exact c
        · have e : Q = q := by omega
          rw [e] at hQ
          omega
      have hq1 : IntKind.u64.wrap (q - 1) = q - 1 := u64in (by omega) (by omega)
      have hr1 : IntKind.u64.wrap (r + y1) = r + y1 := u64in (by omega) (by omega)
      have hqr1 : (q - 1) * y1 + (r + y1) = u := by rw [Int.sub_mul]; omega
      simp only [bits_Div64.j4]
      rw [if_pos trivial, hr1, hq1]
      by_cases c : r + y1 ≥ 4294967296
      · rw [if_pos c, if_pos hs]
        obtain ⟨h1, h2⟩ := digit_rest (b := 4294967296) (n := n) (by omega) hn.1 hy0 (by omega) hqr1 (by omega) c
        have h3 := digit_low (b := 4294967296) (n := n) hqr1 h2
        rw [← hy] at h3
        have h4 : q - 1 = Q := by
          have : (q - 1) * y < (Q + 1) * y := by rw [Int.add_mul]; omega
          have := Int.lt_of_mul_lt_mul_right this (by omega)
          omega
        obtain ⟨e1, e2⟩ := hfin (q - 1) h4
        rw [e1, e2]
      · rw [if_neg c]
        exact ih (q - 1) (r + y1) k (by omega) hqr1 (by omega) (by omega) (by omega) (by omega)
    simp only [bits_Div64.l1]
    by_cases c : q ≥ 4294967296
    · rw [if_pos c]
      exact htest (Or.inl c)
    · have hb := mul_bd (a := q) (b := y0) (A := 4294967295) (B := 4294967295) (by omega) (by omega)
      rw [if_neg c, u64in (x := q * y0) (by omega) (by omega), u64in (x := 4294967296 * r) (by omega) (by omega), u64in (by omega) (by omega)]
      by_cases c2 : q * y0 > 4294967296 * r + n
      · rw [decide_eq_true c2]
        exact htest (Or.inr ⟨by omega, c2⟩)
      · rw [decide_eq_false c2]
        have h3 := digit_low (b := 4294967296) (n := n) hqr (show q * y0 ≤ 4294967296 * r + n by omega)
        rw [← hy] at h3
        have h4 : q = Q := by
          have : q * y < (Q + 1) * y := by rw [Int.add_mul]; omega
          have := Int.lt_of_mul_lt_mul_right this (by omega)
          omega
        obtain ⟨e1, e2⟩ := hfin q h4
        simp only [bits_Div64.j4]
        rw [if_neg (by simp), if_pos hs, e1, e2]

/-- The first digit. -/
theorem first (n n0 u : Int) (hn : 0 ≤ n ∧ n < 4294967296) (hu : 0 ≤ u ∧ u < y) (res : Int × Int) (Q : Int) (hQ0 : 0 ≤ Q) (hQ : Q * y ≤ u * 4294967296 + n) (hQ' : u * 4294967296 + n < Q * y + y) (K : Nat)
    (hres : ∀ k, K ≤ k → bits_Div64.j2 k y s y1 y0 u n n0 Q = some res) :
    ∀ (m : Nat) (q r : Int) (k : Nat), 4294967296 ≤ r + m * 2147483648 → q * y1 + r = u → (0 ≤ r ∧ r < 4294967296) → Q ≤ q → q ≤ 8589934592 → K + 2 * m + 3 ≤ k →
      bits_Div64.l0 k y s y1 y0 u n n0 q r = some res := by
  have hyy : 0 < y := by omega
  intro m
  induction m with
  | zero => intro q r k hm _ hr; omega
  | succ m ih =>
    intro q r k hm hqr hr hQq hq33 hk
    obtain ⟨k, rfl⟩ : ∃ z, k = z + 2 := ⟨k - 2, by omega⟩
    have htest : (q ≥ 4294967296 ∨ (q < 4294967296 ∧ q * y0 > 4294967296 * r + n)) → bits_Div64.j1 (k + 1) y s y1 y0 u n n0 q r true = some res := by
      intro h
      have hgt : u * 4294967296 + n < q * y := by
        rw [hy]
        rcases h with h | ⟨_, h⟩
        · exact digit_big (by omega) hn (by omega) (by omega) (by omega)
        · exact digit_high hqr hr.1 h
      have hQq' : Q < q := by
        by_cases c : Q < q
        · exact c
        · have e : Q = q := by omega
          rw [e] at hQ
          omega
      have hq1 : IntKind.u64.wrap (q - 1) = q - 1 := u64in (by omega) (by omega)
      have hr1 : IntKind.u64.wrap (r + y1) = r + y1 := u64in (by omega) (by omega)
      have hqr1 : (q - 1) * y1 + (r + y1) = u := by rw [Int.sub_mul]; omega
      simp only [bits_Div64.j1]
      rw [if_pos trivial, hr1, hq1]
      by_cases c : r + y1 ≥ 4294967296
      · rw [if_pos c]
        obtain ⟨h1, h2⟩ := digit_rest (b := 4294967296) (n := n) (by omega) hn.1 hy0 (by omega) hqr1 (by omega) c
        have h3 := digit_low (b := 4294967296) (n := n) hqr1 h2
        rw [← hy] at h3
        have h4 : q - 1 = Q := by
          have : (q - 1) * y < (Q + 1) * y := by rw [Int.add_mul]; omega
          have := Int.lt_of_mul_lt_mul_right this (by omega)
          omega
        rw [h4]
        exact hres k (by omega)
      · rw [if_neg c]
        exact ih (q - 1) (r + y1) k (by omega) hqr1 (by omega) (by omega) (by omega) (by omega)
    simp only [bits_Div64.l0]
    by_cases c : q ≥ 4294967296
    · rw [if_pos c]
      exact htest (Or.inl c)
    · have hb := mul_bd (a := q) (b := y0) (A := 4294967295) (B := 4294967295) (by omega) (by omega)
      rw [if_neg c, u64in (x := q * y0) (by omega) (by omega), u64in (x := 4294967296 * r) (by omega) (by omega), u64in (by omega) (by omega)]
      by_cases c2 : q * y0 > 4294967296 * r + n
      · rw [decide_eq_true c2]
        exact htest (Or.inr ⟨by omega, c2⟩)
      · rw [decide_eq_false c2]
        have h3 := digit_low (b := 4294967296) (n := n) hqr (show q * y0 ≤ 4294967296 * r + n by omega)
        rw [← hy] at h3
        have h4 : q = Q := by
          have : q * y < (Q + 1) * y := by rw [Int.add_mul]; omega
          have := Int.lt_of_mul_lt_mul_right this (by omega)
          omega
        simp only [bits_Div64.j1]
        rw [if_neg (by simp), h4]
        exact hres k (by omega)
end
end Go.Proofs.Ytdilliddflnbnaa.PA
