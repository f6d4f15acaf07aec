/- math/bits.Div64 and Mul64, fixed.MulDiv and the reference's: the product over a number, rounded down and brought within. -/
import Derived.Test.YtdilliddflnbnaaBitsA
import Derived.Test.YtdilliddflnbnaaFixedA
import Derived.Test.YtdilliddflnbnaaRefsA
import Derived.Test.YtdilliddflnbnaaPAx10
import Derived.Test.YtdilliddflnbnaaPAx8
import Derived.Test.YtdilliddflnbnaaPAx9
namespace Go.Proofs.Ytdilliddflnbnaa.PA
open Go.RowKit Go.Proofs.YtdilliddflnbnaaW.PrintWords Go.Proofs.YtdilliddflnbnaaW.PrintLast Go.Proofs.YtdilliddflnbnaaW.PrintMore Go.Proofs.Ytdilliddflnbnaa.Div

theorem shl_at {x : Int} {s : Nat} (hs : s ≤ 64) : shl .u64 x (s : Int) = (x * 2 ^ s) % 18446744073709551616 := by
  unfold shl
  have : IntKind.u64.bits = 64 := rfl
  rw [Int.toNat_natCast, this, Nat.min_eq_left hs, u64w]
theorem shr_at {x : Int} {s : Nat} (hs : s ≤ 64) : shr .u64 x (s : Int) = x / 2 ^ s := by
  unfold shr
  have : IntKind.u64.bits = 64 := rfl
  rw [Int.toNat_natCast, this, Nat.min_eq_left hs]

/-- The quotient and the rest of two digits by one. -/
theorem div64_eq {h l y : Int} (hh : 0 ≤ h ∧ h < y) (hl : 0 ≤ l ∧ l < 18446744073709551616) (hy : y < 18446744073709551616) {k : Nat} (hk : 60 ≤ k) :
    bits_Div64.f k h l y = some ((h * 18446744073709551616 + l) / y, (h * 18446744073709551616 + l) % y) := by
  unfold bits_Div64.f
  rw [if_neg (by omega), if_neg (by omega)]
  by_cases h0 : h = 0
  · have e1 := Int.ediv_le_self y hl.1
    have e2 := Int.ediv_nonneg hl.1 (show 0 ≤ y by omega)
    have e3 : l / y ≤ l := Int.ediv_le_self y hl.1
    rw [if_pos h0, Int.tdiv_eq_ediv_of_nonneg hl.1, Int.tmod_eq_emod_of_nonneg hl.1, u64in e2 (by omega), h0]
    simp
  · rw [if_neg h0]
    obtain ⟨s, hs, h63, hn1, hn2⟩ := lz_eq (y := y) (by omega) (k := k) (by omega)
    rw [hs]
    simp only [Option.bind_some]
    have hws : IntKind.u64.wrap (s : Int) = s := u64in (by omega) (by omega)
    have hw64 : IntKind.u64.wrap (64 - (s : Int)) = ((64 - s : Nat) : Int) := by rw [u64in (by omega) (by omega)]; omega
    rw [hws, hw64, if_pos (by omega), if_pos (by omega)]
    have hp : (0 : Int) < 2 ^ s := Int.pow_pos (by omega)
    have hp' : (0 : Int) < 2 ^ (64 - s) := Int.pow_pos (by omega)
    have hpp : (2 : Int) ^ (64 - s) * 2 ^ s = 18446744073709551616 := by rw [← Int.pow_add, show 64 - s + s = 64 by omega]; decide
    -- the divisor, moved to the left
    have hY : shl .u64 y (s : Int) = y * 2 ^ s := by rw [shl_at (by omega)]; omega
    have hY1 : shr .u64 l ((64 - s : Nat) : Int) = l / 2 ^ (64 - s) := shr_at (by omega)
    have hhp : h * 2 ^ s < y * 2 ^ s := Int.mul_lt_mul_of_pos_right hh.2 hp
    have hhp0 : 0 ≤ h * 2 ^ s := Int.mul_nonneg hh.1 (Int.le_of_lt hp)
    have hH : shl .u64 h (s : Int) = h * 2 ^ s := by rw [shl_at (by omega)]; omega
    have hq0 : 0 ≤ l / 2 ^ (64 - s) := Int.ediv_nonneg hl.1 (Int.le_of_lt hp')
    have hq1 : l / 2 ^ (64 - s) < 2 ^ s := by
      rw [Int.ediv_lt_iff_lt_mul hp', Int.mul_comm, hpp]
      exact hl.2
    have hL : shl .u64 l (s : Int) = (l * 2 ^ s) % 18446744073709551616 := shl_at (by omega)
    -- the dividend, moved to the left
    have hsplit : l * 2 ^ s = (l / 2 ^ (64 - s)) * 18446744073709551616 + (l * 2 ^ s) % 18446744073709551616 := by
      have e := Int.emod_add_mul_ediv l (2 ^ (64 - s))
      have e0 := Int.emod_nonneg l (show (2 : Int) ^ (64 - s) ≠ 0 by omega)
      have e1 := Int.emod_lt_of_pos l hp'
      have e2 : l * 2 ^ s = (l / 2 ^ (64 - s)) * 18446744073709551616 + (l % 2 ^ (64 - s)) * 2 ^ s := by
        have : l * 2 ^ s = (l % 2 ^ (64 - s) + 2 ^ (64 - s) * (l / 2 ^ (64 - s))) * 2 ^ s := by rw [e]
        rw [this, Int.add_mul, Int.mul_right_comm, hpp, Int.mul_comm 18446744073709551616]
        omega
      have e3 : 0 ≤ (l % 2 ^ (64 - s)) * 2 ^ s := Int.mul_nonneg e0 (Int.le_of_lt hp)
      have e4 : (l % 2 ^ (64 - s)) * 2 ^ s < 2 ^ (64 - s) * 2 ^ s := Int.mul_lt_mul_of_pos_right e1 hp
      rw [hpp] at e4
      omega
    rw [hY, hH, hY1, hL, or_join h63 hh.1 (by omega) hq0 hq1]
    generalize hlow : (l * 2 ^ s) % 18446744073709551616 = low at hsplit
    have hlow0 : 0 ≤ low ∧ low < 18446744073709551616 := by omega
    generalize hu : h * 2 ^ s + l / 2 ^ (64 - s) = u
    have hU : (h * 18446744073709551616 + l) * 2 ^ s = u * 18446744073709551616 + low := by
      rw [Int.add_mul, hsplit, ← hu, Int.add_mul, Int.mul_right_comm]
      omega
    have hYd : y * 2 ^ s = (y * 2 ^ s / 4294967296) * 4294967296 + (y * 2 ^ s) % 4294967296 := by omega
    have hu2 : 0 ≤ u ∧ u < y * 2 ^ s := by
      refine ⟨by omega, ?_⟩
      have h1 : h * 18446744073709551616 + l < y * 18446744073709551616 := by omega
      have h2 := Int.mul_lt_mul_of_pos_right h1 hp
      rw [hU, Int.mul_right_comm] at h2
      omega
    have hYpos : 0 < y * 2 ^ s := by omega
    rw [and_low (by omega) (by omega), and_low hlow0.1 hlow0.2]
    generalize hYv : y * 2 ^ s = Y at hYd hu2 hYpos hn1 hn2
    generalize hy1v : Y / 4294967296 = y1 at hYd
    generalize hy0v : Y % 4294967296 = y0 at hYd
    have hy1 : 2147483648 ≤ y1 ∧ y1 < 4294967296 := by omega
    have hy0 : 0 ≤ y0 ∧ y0 < 4294967296 := by omega
    have hlo : low = (low / 4294967296) * 4294967296 + low % 4294967296 := by omega
    generalize hnv : low / 4294967296 = n at hlo
    generalize hn0v : low % 4294967296 = n0 at hlo
    have hn : 0 ≤ n ∧ n < 4294967296 := by omega
    have hn0 : 0 ≤ n0 ∧ n0 < 4294967296 := by omega
    clear hlow hsplit hq0 hq1 hhp hhp0 hL hH hY1 hY hw64 hws
    rw [if_neg (by omega)]
    -- the guesses
    have guess : ∀ v : Int, 0 ≤ v → v < Y → 0 ≤ v / y1 ∧ v / y1 ≤ 8589934592 ∧ IntKind.u64.wrap (Int.tdiv v y1) = v / y1 ∧ IntKind.u64.wrap (v - IntKind.u64.wrap (IntKind.u64.wrap (Int.tdiv v y1) * y1)) = v % y1 ∧ (v / y1) * y1 + v % y1 = v ∧ 0 ≤ v % y1 ∧ v % y1 < 4294967296 ∧ v < (v / y1 + 1) * y1 := by
      intro v h1 h2
      have a1 : 0 ≤ v / y1 := Int.ediv_nonneg h1 (by omega)
      have a2 : v / y1 * y1 + v % y1 = v := by have := Int.emod_add_mul_ediv v y1; rw [Int.mul_comm] at this; omega
      have a3 := Int.emod_nonneg v (show y1 ≠ 0 by omega)
      have a4 := Int.emod_lt_of_pos v (show 0 < y1 by omega)
      have a5 : v / y1 ≤ 8589934592 := by
        have h3 : v < 8589934593 * y1 := by omega
        have := (Int.ediv_lt_iff_lt_mul (show 0 < y1 by omega)).2 h3
        omega
      have a6 : v < (v / y1 + 1) * y1 := by rw [Int.add_mul]; omega
      have a7 : IntKind.u64.wrap (Int.tdiv v y1) = v / y1 := by rw [Int.tdiv_eq_ediv_of_nonneg h1, u64in a1 (by omega)]
      refine ⟨a1, a5, a7, ?_, a2, a3, by omega, a6⟩
      have a8 := Int.mul_nonneg a1 (show 0 ≤ y1 by omega)
      rw [a7]
      clear a6 a5 a1 a7
      generalize v / y1 * y1 = P at a2 a8
      rw [u64in (x := P) (by omega) (by omega), u64in (by omega) (by omega)]
      omega
    obtain ⟨g1, g2, g3, g4, g5, g6, g7, g8⟩ := guess u hu2.1 hu2.2
    rw [g4, g3]
    -- the true digits
    have d1 := Int.emod_add_mul_ediv (u * 4294967296 + n) Y
    have d2 := Int.emod_nonneg (u * 4294967296 + n) (show Y ≠ 0 by omega)
    have d3 := Int.emod_lt_of_pos (u * 4294967296 + n) hYpos
    have d4 : 0 ≤ (u * 4294967296 + n) / Y := Int.ediv_nonneg (by omega) (by omega)
    generalize hQ1v : (u * 4294967296 + n) / Y = Q1 at d1 d4
    generalize hR1v : (u * 4294967296 + n) % Y = R1 at d1 d2 d3
    rw [Int.mul_comm] at d1
    have hQ1b : Q1 < 4294967296 := by
      by_cases c : Q1 < 4294967296
      · exact c
      · have := digit_big (b := 4294967296) (y1 := y1) (y0 := y0) (u := u) (n := n) (q := Q1) (by omega) hn (by omega) (by omega) (by omega)
        rw [← hYd] at this
        omega
    obtain ⟨f1, f2, f3, f4, f5, f6, f7, f8⟩ := guess R1 d2 d3
    have c1 := Int.emod_add_mul_ediv (R1 * 4294967296 + n0) Y
    have c2 := Int.emod_nonneg (R1 * 4294967296 + n0) (show Y ≠ 0 by omega)
    have c3 := Int.emod_lt_of_pos (R1 * 4294967296 + n0) hYpos
    have c4 : 0 ≤ (R1 * 4294967296 + n0) / Y := Int.ediv_nonneg (by omega) (by omega)
    generalize hQ0v : (R1 * 4294967296 + n0) / Y = Q0 at c1 c4
    generalize hR0v : (R1 * 4294967296 + n0) % Y = R0 at c1 c2 c3
    rw [Int.mul_comm] at c1
    have hj2 : ∀ k, 20 ≤ k → bits_Div64.j2 k Y (s : Int) y1 y0 u n n0 Q1 = some (Q1 * 4294967296 + Q0, shr .u64 (R1 * 4294967296 + n0 - Q0 * Y) (s : Int)) := by
      intro k hk
      obtain ⟨k, rfl⟩ : ∃ m, k = m + 1 := ⟨k - 1, by omega⟩
      simp only [bits_Div64.j2]
      have e : IntKind.u64.wrap (IntKind.u64.wrap (IntKind.u64.wrap (u * 4294967296) + n) - IntKind.u64.wrap (Q1 * Y)) = R1 := by
        rw [u64w, u64w, u64w, u64w]
        generalize Q1 * Y = P at d1
        omega
      rw [e, if_neg (by omega), f4, f3]
      exact second Y (s : Int) y1 y0 hYd hy1 hy0 n0 Q1 R1 hn0 ⟨d2, d3⟩ ⟨d4, hQ1b⟩ (by omega) Q0 c4 (by omega) (by omega) 2 _ _ k (by omega) f5 ⟨f6, f7⟩ (digit_guess (b := 4294967296) (by omega) hn0 (by omega) hy0.1 c4 (by rw [← hYd]; omega) f8) f2 (by omega)
    rw [first Y (s : Int) y1 y0 hYd hy1 hy0 n n0 u hn hu2 _ Q1 d4 (by omega) (by omega) 20 hj2 2 _ _ k (by omega) g5 ⟨g6, g7⟩ (digit_guess (b := 4294967296) (by omega) hn (by omega) hy0.1 d4 (by rw [← hYd]; omega) g8) g2 (by omega)]
    -- moved back
    have hR : R1 * 4294967296 + n0 - Q0 * Y = R0 := by omega
    rw [hR, shr_at (by omega)]
    have hall : (h * 18446744073709551616 + l) * 2 ^ s = (Q1 * 4294967296 + Q0) * Y + R0 := by
      rw [hU, Int.add_mul, Int.mul_right_comm]
      generalize Q1 * Y = P1 at d1
      generalize Q0 * Y = P0 at c1
      omega
    generalize h * 18446744073709551616 + l = U at hall
    generalize Q1 * 4294967296 + Q0 = Q at hall
    have hR0 : R0 = (U - Q * y) * 2 ^ s := by
      rw [Int.sub_mul, hall, Int.mul_assoc, hYv]
      omega
    have hr1 : R0 / 2 ^ s = U - Q * y := by rw [hR0, Int.mul_ediv_cancel _ (by omega)]
    have hr2 : 0 ≤ U - Q * y := by
      by_cases c : 0 ≤ U - Q * y
      · exact c
      · have := Int.mul_lt_mul_of_pos_right (show U - Q * y < 0 by omega) hp
        omega
    have hr3 : U - Q * y < y := by
      by_cases c : U - Q * y < y
      · exact c
      · have := Int.mul_le_mul_of_nonneg_right (show y ≤ U - Q * y by omega) (Int.le_of_lt hp)
        omega
    have hdiv : U / y = Q := by
      have : U = (U - Q * y) + y * Q := by rw [Int.mul_comm y]; omega
      rw [this, Int.add_mul_ediv_left _ _ (by omega), Int.ediv_eq_zero_of_lt hr2 hr3]
      omega
    have hmod : U % y = U - Q * y := by
      have := Int.emod_add_mul_ediv U y
      rw [hdiv, Int.mul_comm] at this
      omega
    rw [hr1, hdiv, hmod]

/-- The halves of a product. -/
theorem mul64_eq {a b : Int} (ha : 0 ≤ a ∧ a < 18446744073709551616) (hb : 0 ≤ b ∧ b < 18446744073709551616) : bits_Mul64.f a b = some (a * b / 18446744073709551616, a * b % 18446744073709551616) := by
  unfold bits_Mul64.f
  rw [and_low ha.1 ha.2, and_low hb.1 hb.2]
  have e : a * b = (a / 4294967296) * (b / 4294967296) * 18446744073709551616 + ((a / 4294967296) * (b % 4294967296) + (a % 4294967296) * (b / 4294967296)) * 4294967296 + (a % 4294967296) * (b % 4294967296) := by
    have h1 : a = (a / 4294967296) * 4294967296 + a % 4294967296 := by omega
    have h2 : b = (b / 4294967296) * 4294967296 + b % 4294967296 := by omega
    generalize a / 4294967296 = x1 at h1
    generalize a % 4294967296 = x0 at h1
    generalize b / 4294967296 = y1 at h2
    generalize b % 4294967296 = y0 at h2
    rw [h1, h2, Int.add_mul, Int.mul_add, Int.mul_add]
    have c1 : x1 * 4294967296 * (y1 * 4294967296) = x1 * y1 * 18446744073709551616 := by rw [← Int.mul_assoc, Int.mul_right_comm x1]; omega
    have c2 : x1 * 4294967296 * y0 = x1 * y0 * 4294967296 := Int.mul_right_comm _ _ _
    have c3 : x0 * (y1 * 4294967296) = x0 * y1 * 4294967296 := (Int.mul_assoc _ _ _).symm
    rw [c1, c2, c3]
    omega
  have b11 := mul_bd (a := a / 4294967296) (b := b / 4294967296) (A := 4294967295) (B := 4294967295) (by omega) (by omega)
  have b10 := mul_bd (a := a / 4294967296) (b := b % 4294967296) (A := 4294967295) (B := 4294967295) (by omega) (by omega)
  have b01 := mul_bd (a := a % 4294967296) (b := b / 4294967296) (A := 4294967295) (B := 4294967295) (by omega) (by omega)
  have b00 := mul_bd (a := a % 4294967296) (b := b % 4294967296) (A := 4294967295) (B := 4294967295) (by omega) (by omega)
  generalize hp : a * b = p at e
  generalize (a / 4294967296) * (b / 4294967296) = p11 at e b11
  generalize (a / 4294967296) * (b % 4294967296) = p10 at e b10
  generalize (a % 4294967296) * (b / 4294967296) = p01 at e b01
  generalize (a % 4294967296) * (b % 4294967296) = p00 at e b00
  clear hp ha hb
  have t1 : IntKind.u64.wrap (IntKind.u64.wrap p10 + IntKind.u64.wrap p00 / 4294967296) = p10 + p00 / 4294967296 := by
    rw [u64in (x := p10) (by omega) (by omega), u64in (x := p00) (by omega) (by omega), u64in (by omega) (by omega)]
  rw [t1, and_low (by omega) (by omega), u64in (x := p11) (by omega) (by omega), u64in (x := p01) (by omega) (by omega)]
  rw [u64in (x := (p10 + p00 / 4294967296) % 4294967296 + p01) (by omega) (by omega), u64in (x := p11 + (p10 + p00 / 4294967296) / 4294967296) (by omega) (by omega), u64in (by omega) (by omega), u64w]
  congr 2
  omega

theorem abs_eq {a : Int} (h : -1099511627776 ≤ a ∧ a ≤ 1099511627776) : fixed_abs.f a = some (a.natAbs : Int) := by
  unfold fixed_abs.f mx
  rw [w64 (by omega) (by omega)]
  by_cases c : a < -a
  · rw [if_pos c, u64in (by omega) (by omega)]; congr 1; omega
  · rw [if_neg c, u64in (by omega) (by omega)]; congr 1; omega

/-- A product over a number, rounded down, brought within. -/
def mdS (a b c : Int) : Int := sat (a * b / c)
theorem neg_div {p c : Int} (hc : 0 < c) : (-p) / c = if p % c = 0 then -(p / c) else -(p / c) - 1 := by
  have h1 := Int.emod_add_mul_ediv p c
  have h2 := Int.emod_nonneg p (show c ≠ 0 by omega)
  have h3 := Int.emod_lt_of_pos p hc
  split
  · rename_i h
    have : -p = c * (-(p / c)) := by rw [Int.mul_neg]; omega
    rw [this, Int.mul_ediv_cancel_left _ (by omega)]
  · rename_i h
    have : -p = (c - p % c) + c * (-(p / c) - 1) := by rw [Int.mul_sub, Int.mul_neg]; omega
    rw [this, Int.add_mul_ediv_left _ _ (by omega), Int.ediv_eq_zero_of_lt (by omega) (by omega)]
    omega
theorem prod_abs (a b : Int) : a * b = if ((decide (a < 0)) != (decide (b < 0))) = true then -((a.natAbs : Int) * (b.natAbs : Int)) else (a.natAbs : Int) * (b.natAbs : Int) := by
  by_cases ha : a < 0
  · by_cases hb : b < 0
    · have e1 : (a.natAbs : Int) = -a := by omega
      have e2 : (b.natAbs : Int) = -b := by omega
      rw [if_neg (by simp [ha, hb]), e1, e2, Int.neg_mul_neg]
    · have e1 : (a.natAbs : Int) = -a := by omega
      have e2 : (b.natAbs : Int) = b := by omega
      rw [if_pos (by simp [ha, hb]), e1, e2, Int.neg_mul, Int.neg_neg]
  · by_cases hb : b < 0
    · have e1 : (a.natAbs : Int) = a := by omega
      have e2 : (b.natAbs : Int) = -b := by omega
      rw [if_pos (by simp [ha, hb]), e1, e2, Int.mul_neg, Int.neg_neg]
    · have e1 : (a.natAbs : Int) = a := by omega
      have e2 : (b.natAbs : Int) = b := by omega
      rw [if_neg (by simp [ha, hb]), e1, e2]

theorem some_sat {x y : Int} (h : sat x = sat y) : (some (sat x, (0 : Int))) = some (sat y, 0) := by rw [h]
/-- fixed.MulDiv, of what may be. -/
theorem mulDiv_eq {a b c : Int} (ha : co a = true) (hb : co b = true) (hc : co c = true) (hc1 : 1 ≤ c) {k : Nat} (hk : 70 ≤ k) : fixed_MulDiv.f k a b c = some (mdS a b c, 0) := by
  have ba := co_iff.1 ha
  have bb := co_iff.1 hb
  have bc := co_iff.1 hc
  obtain ⟨k, rfl⟩ : ∃ m, k = m + 2 := ⟨k - 2, by omega⟩
  have hA := mul_bd (a := (a.natAbs : Int)) (b := (b.natAbs : Int)) (A := 1099511627776) (B := 1099511627776) (by omega) (by omega)
  unfold fixed_MulDiv.f mdS
  simp only [is_eq, Option.bind_some, ha, hb, hc, if_true]
  rw [prod_abs a b, decide_eq_false (by omega)]
  simp only [fixed_MulDiv.j0]
  rw [if_neg (by simp), abs_eq ba]
  simp only [Option.bind_some]
  rw [abs_eq bb]
  simp only [Option.bind_some]
  rw [mul64_eq (by omega) (by omega)]
  simp only [Option.bind_some]
  generalize (a.natAbs : Int) * (b.natAbs : Int) = p at hA
  have hwc : IntKind.u64.wrap c = c := u64in (by omega) (by omega)
  rw [hwc]
  have hq0 : 0 ≤ p / c := Int.ediv_nonneg hA.1 (by omega)
  have hr0 := Int.emod_nonneg p (show c ≠ 0 by omega)
  have hdm := Int.emod_add_mul_ediv p c
  by_cases hlt : p / 18446744073709551616 < c
  · rw [if_pos hlt, div64_eq (by omega) (by omega) (by omega) (by omega)]
    simp only [Option.bind_some]
    have hp : p / 18446744073709551616 * 18446744073709551616 + p % 18446744073709551616 = p := by omega
    rw [hp]
    have hq1 : p / c < 18446744073709551616 := by
      rw [Int.ediv_lt_iff_lt_mul (by omega)]
      omega
    cases hneg : (decide (a < 0) != decide (b < 0)) with
    | true =>
      simp only [if_true]
      rw [neg_div (by omega)]
      by_cases hr : p % c > 0
      · rw [if_pos hr, if_neg (by omega)]
        generalize p / c = q at hq0 hq1
        simp only [fixed_MulDiv.j1, hneg, if_true, fixed_Sat_eq, Option.bind_some]
        by_cases h : q < 1099511627776
        · rw [decide_eq_true h, if_pos rfl, u64in (x := q + 1) (by omega) (by omega)]
          have e : mn (q + 1) 1099511627776 = q + 1 := by unfold mn; split <;> omega
          rw [e, w64 (n := q + 1) (by omega) (by omega), w64 (by omega) (by omega)]
          refine some_sat ?_
          rw [show -(q + 1) = -q - 1 by omega]
        · rw [decide_eq_false h, if_neg (by simp)]
          have e : mn q 1099511627776 = 1099511627776 := by unfold mn; split <;> omega
          rw [e, w64 (n := 1099511627776) (by omega) (by omega), w64 (by omega) (by omega)]
          refine some_sat ?_
          unfold sat
          repeat' split
          all_goals omega
      · rw [if_neg hr, if_pos (by omega)]
        generalize p / c = q at hq0 hq1
        simp only [fixed_MulDiv.j1, hneg, if_true, fixed_Sat_eq, Option.bind_some, Bool.false_eq_true, if_false]
        rw [w64 (n := mn q 1099511627776) (by unfold mn; split <;> omega) (by unfold mn; split <;> omega), w64 (by unfold mn; split <;> omega) (by unfold mn; split <;> omega)]
        refine some_sat ?_
        unfold sat mn
        repeat' split
        all_goals omega
    | false =>
      simp only [Bool.false_eq_true, if_false]
      generalize p / c = q at hq0 hq1
      simp only [fixed_MulDiv.j1, hneg, Bool.false_eq_true, if_false, fixed_Sat_eq, Option.bind_some]
      rw [w64 (n := mn q 1099511627776) (by unfold mn; split <;> omega) (by unfold mn; split <;> omega)]
      refine some_sat ?_
      unfold sat mn
      repeat' split
      all_goals omega
  · rw [if_neg hlt]
    have hq1 : 18446744073709551616 ≤ p / c := by
      rw [Int.le_ediv_iff_mul_le (by omega)]
      omega
    cases hneg : (decide (a < 0) != decide (b < 0)) with
    | true =>
      simp only [if_true, fixed_Sat_eq, Option.bind_some]
      rw [neg_div (by omega)]
      generalize p / c = q at hq0 hq1
      refine some_sat ?_
      unfold sat
      repeat' split
      all_goals omega
    | false =>
      simp only [Bool.false_eq_true, if_false, fixed_Sat_eq, Option.bind_some]
      generalize p / c = q at hq0 hq1
      refine some_sat ?_
      unfold sat
      repeat' split
      all_goals omega
/-- What may not be is refused. -/
theorem mulDiv_no {a b c : Int} (h : ¬ (co a = true ∧ co b = true ∧ co c = true ∧ 1 ≤ c)) {k : Nat} (hk : 1 ≤ k) : fixed_MulDiv.f k a b c = some (0, 1) := by
  obtain ⟨k, rfl⟩ : ∃ m, k = m + 1 := ⟨k - 1, by omega⟩
  unfold fixed_MulDiv.f
  simp only [is_eq, Option.bind_some, fixed_MulDiv.j0]
  cases h1 : co a with
  | false => simp
  | true =>
    cases h2 : co b with
    | false => simp
    | true =>
      cases h3 : co c with
      | false => simp
      | true =>
        have : c < 1 := by
          by_cases e : c < 1
          · exact e
          · exact absurd ⟨h1, h2, h3, by omega⟩ h
        simp [this]
end Go.Proofs.Ytdilliddflnbnaa.PA
