/- math/bits.Len64, LeadingZeros64, Div64 and Mul64: what they come to, in plain numbers. -/
import Derived.Test.YtdilliddflnbnaaDivFA
import Derived.KernelRfl
import Derived.Test.YtdilliddflnbnaaPAx8
namespace Go.Proofs.Ytdilliddflnbnaa.PA
open Go.RowKit Go.Proofs.YtdilliddflnbnaaW.PrintWords Go.Proofs.YtdilliddflnbnaaW.PrintLast Go.Proofs.YtdilliddflnbnaaW.PrintMore Go.Proofs.Ytdilliddflnbnaa.Div

/-- The table of lengths of bytes. -/
def len8 : ByteArray := (⟨#[0, 1, 2, 2, 3, 3, 3, 3, 4, 4, 4, 4, 4, 4, 4, 4, 5, 5, 5, 5, 5, 5, 5, 5, 5, 5, 5, 5, 5, 5, 5, 5, 6, 6, 6, 6, 6, 6, 6, 6, 6, 6, 6, 6, 6, 6, 6, 6, 6, 6, 6, 6, 6, 6, 6, 6, 6, 6, 6, 6, 6, 6, 6, 6, 7, 7, 7, 7, 7, 7, 7, 7, 7, 7, 7, 7, 7, 7, 7, 7, 7, 7, 7, 7, 7, 7, 7, 7, 7, 7, 7, 7, 7, 7, 7, 7, 7, 7, 7, 7, 7, 7, 7, 7, 7, 7, 7, 7, 7, 7, 7, 7, 7, 7, 7, 7, 7, 7, 7, 7, 7, 7, 7, 7, 7, 7, 7, 7, 8, 8, 8, 8, 8, 8, 8, 8, 8, 8, 8, 8, 8, 8, 8, 8, 8, 8, 8, 8, 8, 8, 8, 8, 8, 8, 8, 8, 8, 8, 8, 8, 8, 8, 8, 8, 8, 8, 8, 8, 8, 8, 8, 8, 8, 8, 8, 8, 8, 8, 8, 8, 8, 8, 8, 8, 8, 8, 8, 8, 8, 8, 8, 8, 8, 8, 8, 8, 8, 8, 8, 8, 8, 8, 8, 8, 8, 8, 8, 8, 8, 8, 8, 8, 8, 8, 8, 8, 8, 8, 8, 8, 8, 8, 8, 8, 8, 8, 8, 8, 8, 8, 8, 8, 8, 8, 8, 8, 8, 8, 8, 8, 8, 8, 8, 8, 8, 8, 8, 8, 8, 8, 8, 8, 8, 8, 8, 8]⟩ : ByteArray)
theorem len8_all : ∀ i : Fin 256, i.val = 0 ∨ (1 ≤ bt len8 i.val ∧ bt len8 i.val ≤ 8 ∧ (2 : Int) ^ (bt len8 i.val - 1).toNat ≤ i.val ∧ (i.val : Int) < 2 ^ (bt len8 i.val).toNat) := by decide +kernel
theorem len8_at {i : Int} (h0 : 0 < i) (h1 : i < 256) : ∃ t : Nat, bt len8 i = (t + 1 : Nat) ∧ t < 8 ∧ (2 : Int) ^ t ≤ i ∧ i < 2 ^ (t + 1) := by
  obtain ⟨n, rfl⟩ := Int.eq_ofNat_of_zero_le (show 0 ≤ i by omega)
  rcases len8_all ⟨n, by omega⟩ with h | ⟨h2, h3, h4, h5⟩
  · simp at h; omega
  · simp only at h2 h3 h4 h5
    refine ⟨(bt len8 n - 1).toNat, by omega, by omega, h4, ?_⟩
    rw [show (bt len8 n - 1).toNat + 1 = (bt len8 n).toNat by omega]
    exact h5

/-- One part of the length: x lies between two powers, t ahead of which e binary places were struck. -/
theorem pow_shift {x : Int} (e : Nat) (c : Int) (hc : c = 2 ^ e) {t : Nat} (h1 : (2 : Int) ^ t ≤ x / c) (h2 : x / c < 2 ^ (t + 1)) : (2 : Int) ^ (t + e) ≤ x ∧ x < 2 ^ (t + e + 1) := by
  have hp : 0 < c := by rw [hc]; exact Int.pow_pos (by omega)
  constructor
  · rw [Int.pow_add, ← hc]
    exact (Int.le_ediv_iff_mul_le hp).1 h1
  · rw [show t + e + 1 = (t + 1) + e by omega, Int.pow_add, ← hc]
    exact (Int.ediv_lt_iff_lt_mul hp).1 h2

theorem len_j0_eq (k : Nat) (x n : Int) : bits_Len64.j0 (k + 1) x n = if x ≥ 65536 then (if (x / 65536) ≥ 256 then (if 0 ≤ (((x / 65536) / 256) % 256) then (if (((x / 65536) / 256) % 256) < 256 then (some (wrap64 ((wrap64 ((wrap64 (n + 16)) + 8)) + (wrap64 (bt len8 (((x / 65536) / 256) % 256)))))) else none) else none) else (if 0 ≤ ((x / 65536) % 256) then (if ((x / 65536) % 256) < 256 then (some (wrap64 ((wrap64 (n + 16)) + (wrap64 (bt len8 ((x / 65536) % 256)))))) else none) else none)) else (if x ≥ 256 then (if 0 ≤ ((x / 256) % 256) then (if ((x / 256) % 256) < 256 then (some (wrap64 ((wrap64 (n + 8)) + (wrap64 (bt len8 ((x / 256) % 256)))))) else none) else none) else (if 0 ≤ (x % 256) then (if (x % 256) < 256 then (some (wrap64 (n + (wrap64 (bt len8 (x % 256)))))) else none) else none)) := rfl
attribute [local irreducible] len8
theorem len_j0 {x n : Int} (hx : 0 < x ∧ x < 4294967296) (hn : 0 ≤ n ∧ n ≤ 32) {k : Nat} (hk : 1 ≤ k) : ∃ t : Nat, bits_Len64.j0 k x n = some (n + t + 1) ∧ t < 32 ∧ (2 : Int) ^ t ≤ x ∧ x < 2 ^ (t + 1) := by
  obtain ⟨k, rfl⟩ : ∃ m, k = m + 1 := ⟨k - 1, by omega⟩
  rw [len_j0_eq]
  by_cases c : x ≥ 65536
  · rw [if_pos c]
    by_cases c2 : x / 65536 ≥ 256
    · obtain ⟨t, ht, h8, h1, h2⟩ := len8_at (i := (x / 65536) / 256) (by omega) (by omega)
      have hm : x / 65536 / 256 % 256 = x / 65536 / 256 := by omega
      rw [if_pos c2, hm, if_pos (by omega), if_pos (by omega)]
      rw [ht]
      have e := pow_shift 24 16777216 (by decide) (t := t) (x := x) (by rw [Int.ediv_ediv_of_nonneg (by omega)] at h1; exact h1) (by rw [Int.ediv_ediv_of_nonneg (by omega)] at h2; exact h2)
      refine ⟨t + 24, ?_, by omega, e.1, e.2⟩
      rw [w64 (n := n + 16) (by omega) (by omega), w64 (n := n + 16 + 8) (by omega) (by omega), w64 (n := ((t + 1 : Nat) : Int)) (by omega) (by omega), w64 (by omega) (by omega)]
      congr 1
      omega
    · obtain ⟨t, ht, h8, h1, h2⟩ := len8_at (i := x / 65536) (by omega) (by omega)
      have hm : x / 65536 % 256 = x / 65536 := by omega
      rw [if_neg c2, hm, if_pos (by omega), if_pos (by omega)]
      have e := pow_shift 16 65536 (by decide) (t := t) (x := x) h1 h2
      refine ⟨t + 16, ?_, by omega, e.1, e.2⟩
      rw [ht, w64 (n := n + 16) (by omega) (by omega), w64 (n := ((t + 1 : Nat) : Int)) (by omega) (by omega), w64 (by omega) (by omega)]
      congr 1
      omega
  · rw [if_neg c]
    by_cases c2 : x ≥ 256
    · obtain ⟨t, ht, h8, h1, h2⟩ := len8_at (i := x / 256) (by omega) (by omega)
      have hm : x / 256 % 256 = x / 256 := by omega
      rw [if_pos c2, hm, if_pos (by omega), if_pos (by omega)]
      have e := pow_shift 8 256 (by decide) (t := t) (x := x) h1 h2
      refine ⟨t + 8, ?_, by omega, e.1, e.2⟩
      rw [ht, w64 (n := n + 8) (by omega) (by omega), w64 (n := ((t + 1 : Nat) : Int)) (by omega) (by omega), w64 (by omega) (by omega)]
      congr 1
      omega
    · obtain ⟨t, ht, h8, h1, h2⟩ := len8_at (i := x) (by omega) (by omega)
      have hm : x % 256 = x := by omega
      rw [if_neg c2, hm, if_pos (by omega), if_pos (by omega)]
      refine ⟨t, ?_, by omega, h1, h2⟩
      rw [ht, w64 (n := ((t + 1 : Nat) : Int)) (by omega) (by omega), w64 (by omega) (by omega)]
      congr 1
      omega

/-- The leading zeros: with as many places more the highest of 64 is set. -/
theorem lz_eq {y : Int} (hy : 0 < y ∧ y < 18446744073709551616) {k : Nat} (hk : 1 ≤ k) : ∃ s : Nat, bits_LeadingZeros64.f k y = some (s : Int) ∧ s ≤ 63 ∧ 9223372036854775808 ≤ y * 2 ^ s ∧ y * 2 ^ s < 18446744073709551616 := by
  have key : ∃ t : Nat, bits_Len64.f k y = some ((t : Int) + 1) ∧ t ≤ 63 ∧ (2 : Int) ^ t ≤ y ∧ y < 2 ^ (t + 1) := by
    unfold bits_Len64.f
    by_cases c : y ≥ 4294967296
    · obtain ⟨t, h, h32, h1, h2⟩ := len_j0 (x := y / 4294967296) (n := 32) (by omega) (by omega) hk
      have e := pow_shift 32 4294967296 (by decide) (t := t) (x := y) h1 h2
      refine ⟨t + 32, ?_, by omega, e.1, e.2⟩
      rw [if_pos c, h]
      congr 1
      omega
    · obtain ⟨t, h, h32, h1, h2⟩ := len_j0 (x := y) (n := 0) (by omega) (by omega) hk
      refine ⟨t, ?_, by omega, h1, h2⟩
      rw [if_neg c, h]
      congr 1
      omega
  obtain ⟨t, ht, h63, h1, h2⟩ := key
  have hp : (2 : Int) ^ t * 2 ^ (63 - t) = 9223372036854775808 := by
    rw [← Int.pow_add, show t + (63 - t) = 63 by omega]
    decide
  have hp2 : (2 : Int) ^ (t + 1) * 2 ^ (63 - t) = 18446744073709551616 := by
    rw [← Int.pow_add, show t + 1 + (63 - t) = 64 by omega]
    decide
  have hpos : (0 : Int) < 2 ^ (63 - t) := Int.pow_pos (by omega)
  refine ⟨63 - t, ?_, by omega, ?_, ?_⟩
  · unfold bits_LeadingZeros64.f
    rw [ht]
    simp only [Option.bind_some]
    rw [w64 (by omega) (by omega)]
    congr 1
    omega
  · have := Int.mul_le_mul_of_nonneg_right h1 (Int.le_of_lt hpos)
    omega
  · have := Int.mul_lt_mul_of_pos_right h2 hpos
    omega

theorem and_low {x : Int} (h0 : 0 ≤ x) (h1 : x < 18446744073709551616) : Go.bits .and .u64 x 4294967295 = x % 4294967296 := by
  obtain ⟨n, rfl⟩ := Int.eq_ofNat_of_zero_le h0
  rw [u64_and _ _ (by omega) (by omega) (by omega) (by omega)]
  have : ((4294967295 : Int).toNat) = 2 ^ 32 - 1 := by decide
  rw [this, Int.toNat_natCast, Nat.and_two_pow_sub_one_eq_mod]
  omega
theorem or_join {a c : Int} {s : Nat} (hs : s ≤ 63) (ha : 0 ≤ a) (ha2 : a * 2 ^ s < 18446744073709551616) (hc : 0 ≤ c) (hc2 : c < 2 ^ s) : Go.bits .or .u64 (a * 2 ^ s) c = a * 2 ^ s + c := by
  obtain ⟨a, rfl⟩ := Int.eq_ofNat_of_zero_le ha
  obtain ⟨c, rfl⟩ := Int.eq_ofNat_of_zero_le hc
  have e : (a : Int) * 2 ^ s = ((2 ^ s * a : Nat) : Int) := by rw [Int.natCast_mul, Int.natCast_pow]; exact Int.mul_comm _ _
  have hc3 : c < 2 ^ s := by have : (c : Int) < ((2 ^ s : Nat) : Int) := by rw [Int.natCast_pow]; exact hc2
                             omega
  have hle : c < 18446744073709551616 := by
    have : (2 : Nat) ^ s ≤ 2 ^ 63 := Nat.pow_le_pow_right (by omega) hs
    have h2 : (2 : Nat) ^ 63 = 9223372036854775808 := by decide
    omega
  rw [e] at ha2 ⊢
  rw [u64_or _ _ (by omega) ha2 (by omega) (by omega), Int.toNat_natCast, Int.toNat_natCast, ← Nat.two_pow_add_eq_or_of_lt hc3]
  omega
end Go.Proofs.Ytdilliddflnbnaa.PA
