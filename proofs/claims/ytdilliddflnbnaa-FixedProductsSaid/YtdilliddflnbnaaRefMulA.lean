/- The reference's MulDiv, bit by bit: the product over a number, rounded down and brought within. -/
import Derived.Test.YtdilliddflnbnaaMulDivA
import Derived.Test.YtdilliddflnbnaaPAx10
namespace Go.Proofs.Ytdilliddflnbnaa.PA
open Go.RowKit Go.Proofs.YtdilliddflnbnaaW.PrintWords Go.Proofs.YtdilliddflnbnaaW.PrintLast Go.Proofs.YtdilliddflnbnaaW.PrintMore

theorem and_one {x : Int} (h0 : 0 ≤ x) (h1 : x < 4611686018427387904) : Go.bits .and .i64 x 1 = x % 2 :=
  bits_mask .i64 62 (by decide) (fun n h0 h1 => by
    rw [IntKind.wrap_i64]
    have h2 : n < 4611686018427387904 := h1
    omega) 1 (by decide) x h0 h1
theorem shr64_at {x : Int} {s : Nat} (hs : s ≤ 64) : shr .i64 x (s : Int) = x / 2 ^ s := by
  unfold shr
  have : IntKind.i64.bits = 64 := rfl
  rw [Int.toNat_natCast, this, Nat.min_eq_left hs]

/-- One bit more of the quotient and of the rest. -/
theorem bit_step {A b c d : Int} (hc : 0 < c) : (2 * A + d) * b / c = 2 * (A * b / c) + (2 * (A * b % c) + d * b) / c ∧ (2 * A + d) * b % c = (2 * (A * b % c) + d * b) % c := by
  have h1 := Int.emod_add_mul_ediv (A * b) c
  have e : (2 * A + d) * b = (2 * (A * b % c) + d * b) + c * (2 * (A * b / c)) := by
    have e1 : (2 * A + d) * b = 2 * (A * b) + d * b := by rw [Int.add_mul, Int.mul_assoc]
    rw [e1, Int.mul_left_comm c 2]
    omega
  constructor
  · rw [e, Int.add_mul_ediv_left _ _ (by omega)]
    omega
  · rw [e, Int.add_mul_emod_self_left]

section
variable (a b c : Int) (neg : Bool) (ha : 0 ≤ a ∧ a ≤ 1099511627776) (hb : 0 ≤ b ∧ b ≤ 1099511627776) (hc : 1 ≤ c ∧ c ≤ 1099511627776)
include ha hb hc
/-- What the loop comes to. -/
def refEnd (neg : Bool) (q r : Int) : Option Int := if neg = true then (if r > 0 then some (sat (wrap64 (wrap64 (-q) - 1))) else some (sat (wrap64 (-q)))) else some (sat q)
theorem bits_l0 : ∀ (m : Nat) (k : Nat), m ≤ 42 → m < k → arrasref1_MulDiv.l0 k a b c neg (mn ((a / 2 ^ m) * b / c) 4398046511104) ((a / 2 ^ m) * b % c) ((m : Int) - 1) = refEnd neg (mn (a * b / c) 4398046511104) (a * b % c) := by
  intro m
  induction m with
  | zero =>
    intro k _ hk
    obtain ⟨k, rfl⟩ : ∃ z, k = z + 1 := ⟨k - 1, by omega⟩
    simp only [arrasref1_MulDiv.l0]
    rw [if_neg (by omega), Int.pow_zero, Int.ediv_one]
    unfold refEnd
    simp only [ref_Sat_eq, Option.bind_some]
  | succ m ih =>
    intro k hm hk
    obtain ⟨k, rfl⟩ : ∃ z, k = z + 1 := ⟨k - 1, by omega⟩
    have hnext := ih k (by omega) (by omega)
    have hp : (0 : Int) < 2 ^ m := Int.pow_pos (by omega)
    have hkk : (((m + 1 : Nat) : Int) - 1) = m := by omega
    -- the bit
    have hx0 : 0 ≤ a / 2 ^ m := Int.ediv_nonneg ha.1 (Int.le_of_lt hp)
    have hx1 : a / 2 ^ m ≤ a := Int.ediv_le_self _ ha.1
    have hA : a / 2 ^ (m + 1) = a / 2 ^ m / 2 := by rw [Int.pow_succ, Int.ediv_ediv_of_nonneg (Int.le_of_lt hp)]
    have hsh : shr .i64 a (m : Int) = a / 2 ^ m := shr64_at (by omega)
    rw [hA, hkk]
    simp only [arrasref1_MulDiv.l0]
    rw [if_pos (by omega), if_pos (by omega), hsh]
    generalize a / 2 ^ m = x at hx0 hx1 hnext
    have hd : x = 2 * (x / 2) + x % 2 := by omega
    obtain ⟨s1, s2⟩ := bit_step (A := x / 2) (b := b) (c := c) (d := x % 2) (by omega)
    rw [← hd] at s1 s2
    rw [s1, s2] at hnext
    have hb0 : 0 ≤ (x / 2) * b := Int.mul_nonneg (by omega) hb.1
    rw [and_one hx0 (by omega)]
    generalize (x / 2) * b = A at hb0 hnext
    have hq0 : 0 ≤ A / c := Int.ediv_nonneg hb0 (by omega)
    have hr0 := Int.emod_nonneg A (show c ≠ 0 by omega)
    have hr1 := Int.emod_lt_of_pos A (show 0 < c by omega)
    generalize A / c = q at hq0 hnext
    generalize A % c = r at hr0 hr1 hnext
    have hmn : 0 ≤ mn q 4398046511104 ∧ mn q 4398046511104 ≤ 4398046511104 := by unfold mn; split <;> omega
    have hwm : Aside0 (wrap64 ((m : Int) - 1) = (m : Int) - 1) := ⟨w64 (by omega) (by omega)⟩
    -- the quotient's digits, brought down to a bound now or at the end
    have hcap : ∀ t : Int, 0 ≤ t → mn (2 * mn q 4398046511104 + t) 4398046511104 = mn (2 * q + t) 4398046511104 := by
      intro t ht
      unfold mn
      repeat' split
      all_goals omega
    have step : ∀ v : Int, 0 ≤ v → v ≤ 3298534883328 → wrap64 (wrap64 (2 * mn q 4398046511104) + wrap64 (Int.tdiv (wrap64 v) c)) = 2 * mn q 4398046511104 + v / c ∧ Int.tmod (wrap64 v) c = v % c := by
      intro v h0 h1
      have e1 := Int.ediv_nonneg h0 (show 0 ≤ c by omega)
      have e2 : v / c ≤ v := Int.ediv_le_self _ h0
      rw [w64 (n := v) (by omega) (by omega), Int.tdiv_eq_ediv_of_nonneg h0, Int.tmod_eq_emod_of_nonneg h0, w64 (n := 2 * mn q 4398046511104) (by omega) (by omega), w64 (n := v / c) (by omega) (by omega), w64 (by omega) (by omega)]
      exact ⟨rfl, rfl⟩
    by_cases hbit : x % 2 = 1
    · rw [if_pos hbit, if_neg (by omega)]
      obtain ⟨e1, e2⟩ := step (2 * r + b) (by omega) (by omega)
      rw [hbit, Int.one_mul] at hnext
      rw [w64 (n := 2 * r) (by omega) (by omega), e1, e2, hcap _ (Int.ediv_nonneg (by omega) (by omega)), hwm.out]
      exact hnext
    · rw [if_neg hbit, if_neg (by omega)]
      obtain ⟨e1, e2⟩ := step (2 * r) (by omega) (by omega)
      have hb2 : x % 2 = 0 := by omega
      rw [hb2, Int.zero_mul, Int.add_zero] at hnext
      rw [e1, e2, hcap _ (Int.ediv_nonneg (by omega) (by omega)), hwm.out]
      exact hnext
end

/-- The reference's MulDiv, of what may be. -/
theorem refMul_eq {a b c : Int} (ha : co a = true) (hb : co b = true) (hc : co c = true) (hc1 : 1 ≤ c) {k : Nat} (hk : 60 ≤ k) : arrasref1_MulDiv.f k a b c = some (mdS a b c) := by
  have ba := co_iff.1 ha
  have bb := co_iff.1 hb
  have bc := co_iff.1 hc
  obtain ⟨k, rfl⟩ : ∃ m, k = m + 2 := ⟨k - 2, by omega⟩
  unfold arrasref1_MulDiv.f mdS
  rw [prod_abs a b]
  have key : ∀ neg : Bool, arrasref1_MulDiv.l0 k (a.natAbs : Int) (b.natAbs : Int) c neg 0 0 41 = some (sat ((if neg = true then -((a.natAbs : Int) * (b.natAbs : Int)) else (a.natAbs : Int) * (b.natAbs : Int)) / c)) := by
    intro neg
    have h := bits_l0 (a.natAbs : Int) (b.natAbs : Int) c neg (by omega) (by omega) (by omega) 42 k (by omega) (by omega)
    have e0 : (a.natAbs : Int) / 2 ^ 42 = 0 := Int.ediv_eq_zero_of_lt (by omega) (by rw [show (2 : Int) ^ 42 = 4398046511104 by decide]; omega)
    rw [e0, Int.zero_mul, Int.zero_ediv, Int.zero_emod] at h
    have e1 : mn 0 4398046511104 = 0 := by decide
    have e2 : ((42 : Nat) : Int) - 1 = 41 := by decide
    rw [e1, e2] at h
    rw [h]
    have hA := mul_bd (a := (a.natAbs : Int)) (b := (b.natAbs : Int)) (A := 1099511627776) (B := 1099511627776) (by omega) (by omega)
    generalize (a.natAbs : Int) * (b.natAbs : Int) = p at hA
    have hq0 : 0 ≤ p / c := Int.ediv_nonneg hA.1 (by omega)
    have hr0 := Int.emod_nonneg p (show c ≠ 0 by omega)
    unfold refEnd
    have hmn : 0 ≤ mn (p / c) 4398046511104 ∧ mn (p / c) 4398046511104 ≤ 4398046511104 := by unfold mn; split <;> omega
    cases neg with
    | true =>
      simp only [if_true]
      rw [neg_div (by omega)]
      rw [w64 (n := -mn (p / c) 4398046511104) (by omega) (by omega), w64 (by omega) (by omega)]
      generalize p / c = q at hq0 hmn
      by_cases hr : p % c > 0
      · rw [if_pos hr, if_neg (by omega)]
        congr 1
        unfold sat mn
        repeat' split
        all_goals omega
      · rw [if_neg hr, if_pos (by omega)]
        congr 1
        unfold sat mn
        repeat' split
        all_goals omega
    | false =>
      simp only [Bool.false_eq_true, if_false]
      generalize p / c = q at hq0 hmn
      congr 1
      unfold sat mn
      repeat' split
      all_goals omega
  have hj : ∀ x : Int, x = (a.natAbs : Int) → ∀ neg : Bool, arrasref1_MulDiv.j0 (k + 2) x b c neg = some (sat ((if neg = true then -((a.natAbs : Int) * (b.natAbs : Int)) else (a.natAbs : Int) * (b.natAbs : Int)) / c)) := by
    intro x hx neg
    subst hx
    simp only [arrasref1_MulDiv.j0, arrasref1_MulDiv.j1]
    by_cases h : b < 0
    · have e : wrap64 (-b) = (b.natAbs : Int) := by rw [w64 (by omega) (by omega)]; omega
      rw [if_pos h, e]
      exact key neg
    · have e : b = (b.natAbs : Int) := by omega
      rw [if_neg h]
      have := key neg
      rw [← e] at this
      rw [← e]
      exact this
  by_cases h : a < 0
  · have e : wrap64 (-a) = (a.natAbs : Int) := by rw [w64 (by omega) (by omega)]; omega
    rw [if_pos h]
    exact hj _ e _
  · rw [if_neg h]
    exact hj a (by omega) _
end Go.Proofs.Ytdilliddflnbnaa.PA
