/- Sums of whole numbers as floats are exact. -/
import Derived.Test.YtdpeeinmckohgaaFloats
namespace Go.Proofs.Ytdpeeinmckohgaa.F64
open Go Go.Proofs.YtdpeeinmckohgaaW.PrintWords Ieee

theorem cut_exact (q d : Nat) (neg : Bool) (hq : q ≠ 0) : Toward.even.cut neg (q * 2 ^ d) d = q := by
  have hd : d ≤ (q * 2 ^ d).log2 + 2 := by
    have h1 : 2 ^ d ≤ q * 2 ^ d := Nat.le_mul_of_pos_left _ (by omega)
    have h2 : q * 2 ^ d ≠ 0 := Nat.mul_ne_zero hq (by have := Nat.two_pow_pos d; omega)
    have := (Nat.le_log2 h2).2 h1
    omega
  have hp := Nat.two_pow_pos d
  unfold Toward.cut
  rw [Nat.min_eq_left hd]
  simp only [Nat.shiftLeft_eq, Nat.one_mul]
  rw [Nat.mul_div_cancel _ hp, Nat.mul_mod_left]
  have : (2 ^ d == 2 * 0) = false := by
    rw [beq_eq_false_iff_ne]
    omega
  simp [this]
theorem log2_shift (m M : Nat) (h0 : m ≠ 0) : (m * 2 ^ M).log2 = m.log2 + M := by
  have hp := Nat.two_pow_pos M
  refine (Nat.log2_eq_iff (Nat.mul_ne_zero h0 (by omega))).2 ⟨?_, ?_⟩
  · rw [Nat.pow_add]
    exact Nat.mul_le_mul_right _ (Nat.log2_self_le h0)
  · have e : 2 ^ (m.log2 + M + 1) = 2 ^ (m.log2 + 1) * 2 ^ M := by rw [← Nat.pow_add]; congr 1; omega
    rw [e]
    exact Nat.mul_lt_mul_of_pos_right Nat.lt_log2_self hp
theorem nearest_shift (neg : Bool) (m M : Nat) (h0 : m ≠ 0) (h : m < 2 ^ 53) : Ieee.double.nearest neg (m * 2 ^ M) (-(M : Int)) = Ieee.double.nearest neg m 0 := by
  rw [nearest_int neg m h0 h]
  have hl : m.log2 < 53 := log_lt h0 h
  have e1 : Ieee.double.leastPlace = -1074 := by decide
  have e2 : Ieee.double.binade = 2 ^ 52 := rfl
  have e3 : (Ieee.double.fractionBits : Int) = 52 := rfl
  have hp := Nat.two_pow_pos M
  have hm : m * 2 ^ M ≠ 0 := Nat.mul_ne_zero h0 (by omega)
  unfold Format.nearest
  rw [if_neg hm, log2_shift m M h0]
  simp only [e1, e2, e3]
  have hlast : max (-(M : Int) + ((m.log2 + M : Nat) : Int) - 52) (-1074) = (m.log2 : Int) - 52 := by omega
  rw [hlast]
  have a3 : ((m.log2 : Int) - 52 - -1074).toNat = m.log2 + 1022 := by omega
  have key : Toward.even.cut neg ((m * 2 ^ M) <<< (-(M : Int) - ((m.log2 : Int) - 52)).toNat) ((m.log2 : Int) - 52 - -(M : Int)).toNat = m * 2 ^ (52 - m.log2) := by
    rw [Nat.shiftLeft_eq]
    by_cases c : M ≤ 52 - m.log2
    · have a1 : (-(M : Int) - ((m.log2 : Int) - 52)).toNat = 52 - m.log2 - M := by omega
      have a2 : ((m.log2 : Int) - 52 - -(M : Int)).toNat = 0 := by omega
      have a5 : M + (52 - m.log2 - M) = 52 - m.log2 := by omega
      rw [a1, a2, cut0, Nat.mul_assoc, ← Nat.pow_add, a5]
    · have a1 : (-(M : Int) - ((m.log2 : Int) - 52)).toNat = 0 := by omega
      have a2 : ((m.log2 : Int) - 52 - -(M : Int)).toNat = M - (52 - m.log2) := by omega
      have a4 : m * 2 ^ M = m * 2 ^ (52 - m.log2) * 2 ^ (M - (52 - m.log2)) := by
        rw [Nat.mul_assoc, ← Nat.pow_add]
        congr 2
        omega
      rw [a1, a2, Nat.pow_zero, Nat.mul_one, a4]
      have hp2 := Nat.two_pow_pos (52 - m.log2)
      exact cut_exact _ _ _ (Nat.mul_ne_zero h0 (by omega))
  rw [key, a3]
  congr 1
  refine Nat.min_eq_left ?_
  have hlt : m * 2 ^ (52 - m.log2) < 2 ^ 53 := by
    have : m < 2 ^ (m.log2 + 1) := Nat.lt_log2_self
    calc m * 2 ^ (52 - m.log2) < 2 ^ (m.log2 + 1) * 2 ^ (52 - m.log2) := Nat.mul_lt_mul_of_pos_right this (Nat.two_pow_pos _)
      _ = 2 ^ 53 := by rw [← Nat.pow_add]; congr 1; omega
  have hinf : Ieee.double.infRung = 2047 * 2 ^ 52 := rfl
  rw [hinf]
  omega
theorem add_exact {a b : Int} (ha : Ok a) (hb : Ok b) (hab : Ok (a + b)) : FloatKind.f64.format.add (fOf a) (fOf b) = some (fOf (a + b)) := by
  obtain ⟨s, hs⟩ := reps a ha.abs
  obtain ⟨t, ht⟩ := reps b hb.abs
  have r1 : FloatKind.f64.format.read (fOf a) = _ := hs.rd
  have r2 : FloatKind.f64.format.read (fOf b) = _ := ht.rd
  obtain ⟨M, hM⟩ : ∃ M, M = max s t := ⟨_, rfl⟩
  have hbase : min (-(s : Int)) (-(t : Int)) = -(M : Int) := by omega
  have e1 : s + (-(s : Int) - min (-(s : Int)) (-(t : Int))).toNat = M := by omega
  have e2 : t + (-(t : Int) - min (-(s : Int)) (-(t : Int))).toNat = M := by omega
  unfold Format.add
  rw [r1, r2]
  simp only [Datum.sum, Option.map_some]
  rw [signed_reps, signed_reps, e1, e2, hbase, ← Int.add_mul]
  have hp := pow_pos' M
  congr 1
  by_cases c : a + b = 0
  · rw [c, Int.zero_mul]
    simp only [if_true, Int.natAbs_zero]
    have hn : (decide (a < 0) && decide (b < 0)) = false := by
      by_cases h1 : a < 0
      · have : ¬ b < 0 := by omega
        simp [this]
      · simp [h1]
    rw [hn]
    show Ieee.double.nearest false 0 (-(M : Int)) = fOf 0
    unfold Format.nearest
    rw [if_pos rfl, fOf_zero]
    rfl
  · have hne : (a + b) * 2 ^ M ≠ 0 := fun h => by
      rcases Int.mul_eq_zero.1 h with h | h
      · exact c h
      · omega
    rw [if_neg hne]
    have hsign : decide ((a + b) * 2 ^ M < 0) = decide (a + b < 0) := by
      by_cases h : a + b < 0
      · rw [decide_eq_true h]
        exact decide_eq_true (Int.mul_neg_of_neg_of_pos h hp)
      · rw [decide_eq_false h]
        refine decide_eq_false (fun h2 => ?_)
        have := Int.mul_nonneg (show 0 ≤ a + b by omega) (Int.le_of_lt hp)
        omega
    have habs : ((a + b) * 2 ^ M).natAbs = (a + b).natAbs * 2 ^ M := by
      rw [Int.natAbs_mul]
      have : ((2 : Int) ^ M) = ((2 ^ M : Nat) : Int) := by simp
      rw [this, Int.natAbs_natCast]
    rw [hsign, habs]
    show Ieee.double.nearest (decide (a + b < 0)) ((a + b).natAbs * 2 ^ M) (-(M : Int)) = fOf (a + b)
    rw [nearest_shift _ _ _ (by omega) hab.abs]
    rfl
theorem fAdd_of {a b : Int} (ha : Ok a) (hb : Ok b) (hab : Ok (a + b)) : fAddIs (fOf a) (fOf b) = true ∧ fAdd (fOf a) (fOf b) = fOf (a + b) := by
  unfold fAddIs fAdd
  rw [add_exact ha hb hab]
  exact ⟨rfl, rfl⟩
end Go.Proofs.Ytdpeeinmckohgaa.F64
