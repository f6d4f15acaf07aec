/- Whole numbers as floats: exact up to 2^52; sums of these. -/
import Derived.Calls
import Derived.Laws.Externs
set_option linter.unusedVariables false
namespace Go.Ai.F64
open Go Ieee

def feq (a b : Nat) : Bool := FloatKind.f64.format.order a b == some .eq
def flt (a b : Nat) : Bool := FloatKind.f64.format.order a b == some .lt
def fle (a b : Nat) : Bool := FloatKind.f64.format.order a b == some .lt || FloatKind.f64.format.order a b == some .eq
def fgt (a b : Nat) : Bool := FloatKind.f64.format.order a b == some .gt
def fge (a b : Nat) : Bool := FloatKind.f64.format.order a b == some .gt || FloatKind.f64.format.order a b == some .eq
/-- 'float64(n)'. -/
def fOf (n : Int) : Nat := FloatKind.f64.nearest n
/-- Is there an 'int(x)', and which. -/
def fIs (b : Nat) : Bool := match (FloatKind.f64.decode b).toInt .zero with
  | some n => decide (IntKind.i64.min ≤ n ∧ n ≤ IntKind.i64.max)
  | none => false
def fInt (b : Nat) : Int := ((FloatKind.f64.decode b).toInt .zero).getD 0
/-- Is a sum a number, and which. -/
def fAddIs (a b : Nat) : Bool := (FloatKind.f64.format.add a b).isSome
def fAdd (a b : Nat) : Nat := (FloatKind.f64.format.add a b).getD 0

theorem read_def (b : Nat) : FloatKind.f64.decode b = Ieee.double.read b := rfl
/-- How a whole number's float reads. -/
structure Reps (b : Nat) (n : Int) (s : Nat) : Prop where
  rd : FloatKind.f64.decode b = .number (decide (n < 0)) (n.natAbs * 2 ^ s) (-(s : Int))
  fit : n = 0 ∨ s ≤ 52

theorem cut0 (way : Toward) (neg : Bool) (n : Nat) : way.cut neg n 0 = n := by
  unfold Toward.cut
  simp only [Nat.zero_min, Nat.shiftLeft_zero, Nat.div_one, Nat.mod_one]
  cases way <;> simp
theorem log_lt {m k : Nat} (h0 : m ≠ 0) (h : m < 2 ^ k) : m.log2 < k := (Nat.log2_lt h0).2 h

theorem nearest_int (neg : Bool) (m : Nat) (h0 : m ≠ 0) (h : m < 2 ^ 53) : Ieee.double.nearest neg m 0 = Ieee.double.word neg ((m.log2 + 1022) * 2 ^ 52 + m * 2 ^ (52 - m.log2)) := by
  have hl : m.log2 < 53 := log_lt h0 h
  have e1 : Ieee.double.leastPlace = -1074 := by decide
  have e2 : Ieee.double.binade = 2 ^ 52 := rfl
  have e3 : (Ieee.double.fractionBits : Int) = 52 := rfl
  unfold Format.nearest
  rw [if_neg h0]
  simp only [e1, e2, e3]
  have hlast : max ((0 : Int) + (m.log2 : Int) - 52) (-1074) = (m.log2 : Int) - 52 := by omega
  rw [hlast]
  have a1 : ((0 : Int) - ((m.log2 : Int) - 52)).toNat = 52 - m.log2 := by omega
  have a2 : ((m.log2 : Int) - 52 - 0).toNat = 0 := by omega
  have a3 : ((m.log2 : Int) - 52 - -1074).toNat = m.log2 + 1022 := by omega
  rw [a1, a2, a3, cut0, Nat.shiftLeft_eq]
  congr 1
  refine Nat.min_eq_left ?_
  have hlt : m * 2 ^ (52 - m.log2) < 2 ^ 53 := by
    have : m < 2 ^ (m.log2 + 1) := Nat.lt_log2_self
    calc m * 2 ^ (52 - m.log2) < 2 ^ (m.log2 + 1) * 2 ^ (52 - m.log2) := Nat.mul_lt_mul_of_pos_right this (Nat.two_pow_pos _)
      _ = 2 ^ 53 := by rw [← Nat.pow_add]; congr 1; omega
  have hinf : Ieee.double.infRung = 2047 * 2 ^ 52 := rfl
  rw [hinf]
  omega

theorem read_word (neg : Bool) (l k : Nat) (hl : l < 53) (hk : 2 ^ 52 ≤ k) (hk' : k < 2 ^ 53) : Ieee.double.read (Ieee.double.word neg ((l + 1022) * 2 ^ 52 + k)) = .number neg k ((l : Int) - 52) := by
  have e1 : Ieee.double.leastPlace = -1074 := by decide
  have e2 : Ieee.double.binade = 4503599627370496 := rfl
  have e4 : Ieee.double.signWeight = 9223372036854775808 := rfl
  have hinf : Ieee.double.infRung = 9218868437227405312 := rfl
  obtain ⟨r, hr⟩ : ∃ r, r = (l + 1022) * 4503599627370496 + k := ⟨_, rfl⟩
  have hr' : (l + 1022) * 2 ^ 52 + k = r := hr.symm
  have hk1 : 4503599627370496 ≤ k := hk
  have hk2 : k < 9007199254740992 := hk'
  have hword : Ieee.double.word neg r = if neg then 9223372036854775808 + r else r := rfl
  unfold Format.read
  rw [hr', hword]
  simp only [e1, e2, e4, hinf]
  have hneg : ((if neg = true then 9223372036854775808 + r else r) / 9223372036854775808 % 2 == 1) = neg := by
    cases neg
    · simp only [Bool.false_eq_true, if_false]
      have : r / 9223372036854775808 = 0 := by omega
      rw [this]; rfl
    · simp only [if_true]
      have : (9223372036854775808 + r) / 9223372036854775808 = 1 := by omega
      rw [this]; rfl
  have hmod : (if neg = true then 9223372036854775808 + r else r) % 9223372036854775808 = r := by
    cases neg
    · simp only [Bool.false_eq_true, if_false]; omega
    · simp only [if_true]; omega
  rw [hneg, hmod, if_neg (by omega), if_pos (by omega)]
  have hd : r / 4503599627370496 = l + 1023 := by omega
  have hm : r % 4503599627370496 = k - 4503599627370496 := by omega
  rw [hd, hm]
  have x1 : 4503599627370496 + (k - 4503599627370496) = k := Nat.add_sub_of_le hk1
  have x2 : (-1074 : Int) + ((l + 1023 - 1 : Nat) : Int) = (l : Int) - 52 := by omega
  rw [x1, x2]

theorem fOf_zero : fOf 0 = 0 := by decide
theorem reps (n : Int) (h : n.natAbs < 2 ^ 53) : ∃ s, Reps (fOf n) n s := by
  by_cases h0 : n = 0
  · subst h0
    obtain ⟨s, hs⟩ : ∃ s : Nat, s = 1074 := ⟨_, rfl⟩
    refine ⟨s, ⟨?_, Or.inl rfl⟩⟩
    rw [fOf_zero, Int.natAbs_zero, Nat.zero_mul, hs]
    decide
  · have hm : n.natAbs ≠ 0 := by omega
    have hl : n.natAbs.log2 < 53 := log_lt hm h
    refine ⟨52 - n.natAbs.log2, ⟨?_, Or.inr (by omega)⟩⟩
    have e : fOf n = Ieee.double.nearest (decide (n < 0)) n.natAbs 0 := rfl
    have lo : 2 ^ 52 ≤ n.natAbs * 2 ^ (52 - n.natAbs.log2) := by
      have : 2 ^ n.natAbs.log2 ≤ n.natAbs := Nat.log2_self_le hm
      calc 2 ^ 52 = 2 ^ n.natAbs.log2 * 2 ^ (52 - n.natAbs.log2) := by rw [← Nat.pow_add]; congr 1; omega
        _ ≤ _ := Nat.mul_le_mul_right _ this
    have hi : n.natAbs * 2 ^ (52 - n.natAbs.log2) < 2 ^ 53 := by
      have : n.natAbs < 2 ^ (n.natAbs.log2 + 1) := Nat.lt_log2_self
      calc n.natAbs * 2 ^ (52 - n.natAbs.log2) < 2 ^ (n.natAbs.log2 + 1) * 2 ^ (52 - n.natAbs.log2) := Nat.mul_lt_mul_of_pos_right this (Nat.two_pow_pos _)
        _ = 2 ^ 53 := by rw [← Nat.pow_add]; congr 1; omega
    rw [read_def, e, nearest_int _ _ hm h, read_word _ _ _ hl lo hi]
    congr 1
    omega

theorem signed_reps (n : Int) (s u : Nat) : Ieee.signed (decide (n < 0)) (n.natAbs * 2 ^ s) u = n * 2 ^ (s + u) := by
  unfold Ieee.signed
  rw [Nat.shiftLeft_eq, Nat.mul_assoc, ← Nat.pow_add]
  by_cases h : n < 0
  · simp only [h, decide_true, if_true]
    have : (n.natAbs : Int) = -n := by omega
    rw [Int.natCast_mul, this, Int.natCast_pow]
    simp [Int.neg_mul]
  · simp only [h, decide_false, Bool.false_eq_true, if_false]
    have : (n.natAbs : Int) = n := by omega
    rw [Int.natCast_mul, this, Int.natCast_pow]
    simp
theorem pow_pos' (k : Nat) : (0 : Int) < 2 ^ k := by
  have := Nat.two_pow_pos k
  have e : ((2 ^ k : Nat) : Int) = (2 : Int) ^ k := by simp
  omega
theorem compare_mul (a b : Int) (k : Nat) : compare (a * 2 ^ k) (b * 2 ^ k) = compare a b := by
  have hp := pow_pos' k
  rcases Int.lt_trichotomy a b with h | h | h
  · rw [Int.compare_eq_lt.2 h, Int.compare_eq_lt.2 (Int.mul_lt_mul_of_pos_right h hp)]
  · subst h; simp
  · rw [Int.compare_eq_gt.2 h, Int.compare_eq_gt.2 (Int.mul_lt_mul_of_pos_right h hp)]
theorem order_reps {x y : Nat} {a b : Int} {s t : Nat} (hx : Reps x a s) (hy : Reps y b t) : FloatKind.f64.format.order x y = some (compare a b) := by
  have h1 : FloatKind.f64.format.read x = _ := hx.rd
  have h2 : FloatKind.f64.format.read y = _ := hy.rd
  unfold Format.order
  rw [h1, h2]
  simp only [Datum.order]
  rw [signed_reps, signed_reps]
  have e1 : s + (-(s : Int) - min (-(s : Int)) (-(t : Int))).toNat = max s t := by omega
  have e2 : t + (-(t : Int) - min (-(s : Int)) (-(t : Int))).toNat = max s t := by omega
  rw [e1, e2, compare_mul]

/-- A whole number that a float has just so. -/
def Ok (n : Int) : Prop := -4503599627370496 ≤ n ∧ n ≤ 4503599627370496
theorem Ok.abs {n : Int} (h : Ok n) : n.natAbs < 2 ^ 53 := by unfold Ok at h; have : (2 : Nat) ^ 53 = 9007199254740992 := by decide
                                                              omega
theorem feq_of {a b : Int} (ha : Ok a) (hb : Ok b) : feq (fOf a) (fOf b) = decide (a = b) := by
  obtain ⟨s, hs⟩ := reps a ha.abs
  obtain ⟨t, ht⟩ := reps b hb.abs
  unfold feq
  rw [order_reps hs ht]
  rcases Int.lt_trichotomy a b with h | h | h
  · rw [Int.compare_eq_lt.2 h]; have : ¬ a = b := by omega
    simp [this]
  · subst h; simp
  · rw [Int.compare_eq_gt.2 h]; have : ¬ a = b := by omega
    simp [this]
theorem fle_of {a b : Int} (ha : Ok a) (hb : Ok b) : fle (fOf a) (fOf b) = decide (a ≤ b) := by
  obtain ⟨s, hs⟩ := reps a ha.abs
  obtain ⟨t, ht⟩ := reps b hb.abs
  unfold fle
  rw [order_reps hs ht]
  rcases Int.lt_trichotomy a b with h | h | h
  · rw [Int.compare_eq_lt.2 h]; have : a ≤ b := by omega
    simp [this]
  · subst h; simp
  · rw [Int.compare_eq_gt.2 h]; have : ¬ a ≤ b := by omega
    simp [this]
theorem fge_of {a b : Int} (ha : Ok a) (hb : Ok b) : fge (fOf a) (fOf b) = decide (b ≤ a) := by
  obtain ⟨s, hs⟩ := reps a ha.abs
  obtain ⟨t, ht⟩ := reps b hb.abs
  unfold fge
  rw [order_reps hs ht]
  rcases Int.lt_trichotomy a b with h | h | h
  · rw [Int.compare_eq_lt.2 h]; have : ¬ b ≤ a := by omega
    simp [this]
  · subst h; simp
  · rw [Int.compare_eq_gt.2 h]; have : b ≤ a := by omega
    simp [this]

theorem cut_zero (neg : Bool) (n d : Nat) : Toward.zero.cut neg n d = n / 2 ^ d := by
  unfold Toward.cut
  simp only [Bool.toNat_false, Nat.add_zero, Nat.shiftLeft_eq, Nat.one_mul]
  by_cases h : d ≤ n.log2 + 2
  · rw [Nat.min_eq_left h]
  · rw [Nat.min_eq_right (by omega)]
    have h1 : n < 2 ^ (n.log2 + 1) := Nat.lt_log2_self
    have h2 : 2 ^ (n.log2 + 1) ≤ 2 ^ (n.log2 + 2) := Nat.pow_le_pow_right (by omega) (by omega)
    have h3 : 2 ^ (n.log2 + 2) ≤ 2 ^ d := Nat.pow_le_pow_right (by omega) (by omega)
    rw [Nat.div_eq_of_lt (by omega), Nat.div_eq_of_lt (by omega)]
theorem toInt_number (neg : Bool) (m : Nat) (e : Int) : (Datum.number neg m e).toInt .zero = some (Ieee.signed neg (m * 2 ^ e.toNat / 2 ^ (-e).toNat) 0) := by
  simp only [Datum.toInt, Datum.integral]
  rw [cut_zero, Nat.shiftLeft_eq]
theorem toInt_reps {x : Nat} {n : Int} {s : Nat} (h : Reps x n s) : (FloatKind.f64.decode x).toInt .zero = some n := by
  rw [h.rd, toInt_number]
  have e1 : (-(s : Int)).toNat = 0 := by omega
  have e2 : (-(-(s : Int))).toNat = s := by omega
  rw [e1, e2, Nat.pow_zero, Nat.mul_one, Nat.mul_div_cancel _ (Nat.two_pow_pos s)]
  have := signed_reps n 0 0
  simp at this
  rw [this]
theorem fInt_of {n : Int} (h : Ok n) : fInt (fOf n) = n := by
  obtain ⟨s, hs⟩ := reps n h.abs
  unfold fInt
  rw [toInt_reps hs]
  rfl
theorem i64_min : IntKind.i64.min = -9223372036854775808 := rfl
theorem i64_max : IntKind.i64.max = 9223372036854775807 := rfl
theorem fIs_of {n : Int} (h : Ok n) : fIs (fOf n) = true := by
  obtain ⟨s, hs⟩ := reps n h.abs
  unfold fIs
  rw [toInt_reps hs]
  simp only [i64_min, i64_max]
  unfold Ok at h
  exact decide_eq_true (by omega)

theorem feq_comm (x y : Nat) : feq x y = feq y x := by
  unfold feq Format.order
  generalize FloatKind.f64.format.read x = a
  generalize FloatKind.f64.format.read y = b
  cases a <;> cases b <;> simp only [Datum.order]
  case number.number s m i t n j =>
    rw [Int.min_comm j i]
    generalize Ieee.signed s m (i - min i j).toNat = p
    generalize Ieee.signed t n (j - min i j).toNat = q
    rcases Int.lt_trichotomy p q with h | h | h
    · rw [Int.compare_eq_lt.2 h, Int.compare_eq_gt.2 h]; rfl
    · subst h; rfl
    · rw [Int.compare_eq_gt.2 h, Int.compare_eq_lt.2 h]; rfl
  case number.infinity s m i t => cases t <;> rfl
  case infinity.number s t n j => cases s <;> rfl
  case infinity.infinity s t => cases s <;> cases t <;> rfl

/-- Between the ends a float has a whole part, within the same ends. -/
theorem range {x : Nat} (h1 : fge x (fOf (-1099511627776)) = true) (h2 : fle x (fOf 1099511627776) = true) : fIs x = true ∧ -1099511627776 ≤ fInt x ∧ fInt x ≤ 1099511627776 := by
  obtain ⟨s, hs⟩ := reps (-1099511627776) (by decide)
  obtain ⟨t, ht⟩ := reps 1099511627776 (by decide)
  have r1 : FloatKind.f64.format.read (fOf (-1099511627776)) = _ := hs.rd
  have r2 : FloatKind.f64.format.read (fOf 1099511627776) = _ := ht.rd
  unfold fge Format.order at h1
  unfold fle Format.order at h2
  rw [r1] at h1
  rw [r2] at h2
  have hx : FloatKind.f64.decode x = FloatKind.f64.format.read x := rfl
  unfold fIs fInt
  rw [hx]
  revert h1 h2
  generalize FloatKind.f64.format.read x = a
  intro h1 h2
  cases a with
  | nan g f => simp [Datum.order] at h1
  | infinity g => cases g <;> simp [Datum.order] at h1 h2
  | number g m e =>
    simp only [Datum.order] at h1 h2
    rw [signed_reps] at h1 h2
    rw [toInt_number]
    -- the value against both ends
    have k1 : -1099511627776 * 2 ^ (s + (-(s : Int) - min e (-(s : Int))).toNat) ≤ Ieee.signed g m (e - min e (-(s : Int))).toNat := by
      apply Classical.byContradiction
      intro hn
      rw [Int.compare_eq_lt.2 (by omega)] at h1
      simp at h1
    have k2 : Ieee.signed g m (e - min e (-(t : Int))).toNat ≤ 1099511627776 * 2 ^ (t + (-(t : Int) - min e (-(t : Int))).toNat) := by
      apply Classical.byContradiction
      intro hn
      rw [Int.compare_eq_gt.2 (by omega)] at h2
      simp at h2
    have key : ∀ (u : Nat), g = false ∨ g = true → (m * 2 ^ (e - min e (-(u : Int))).toNat ≤ 1099511627776 * 2 ^ (u + (-(u : Int) - min e (-(u : Int))).toNat)) → m * 2 ^ e.toNat / 2 ^ (-e).toNat ≤ 1099511627776 := by
      intro u _ hk
      by_cases he : 0 ≤ e
      · have a1 : (-e).toNat = 0 := by omega
        have a2 : (e - min e (-(u : Int))).toNat = e.toNat + u := by omega
        have a3 : u + (-(u : Int) - min e (-(u : Int))).toNat = u := by omega
        rw [a2, a3, Nat.pow_add, ← Nat.mul_assoc] at hk
        rw [a1, Nat.pow_zero, Nat.div_one]
        exact Nat.le_of_mul_le_mul_right hk (Nat.two_pow_pos u)
      · have a1 : e.toNat = 0 := by omega
        obtain ⟨d, hd⟩ : ∃ d : Nat, d = (-e).toNat := ⟨_, rfl⟩
        rw [a1, Nat.pow_zero, Nat.mul_one, ← hd]
        have a2 : (e - min e (-(u : Int))).toNat = max d u - d := by omega
        have a3 : u + (-(u : Int) - min e (-(u : Int))).toNat = d + (max d u - d) := by omega
        rw [a2, a3, Nat.pow_add, ← Nat.mul_assoc] at hk
        have := Nat.le_of_mul_le_mul_right hk (Nat.two_pow_pos _)
        exact (Nat.div_le_iff_le_mul_add_pred (Nat.two_pow_pos d)).2 (by
          rw [Nat.mul_comm] at this
          exact Nat.le_trans this (Nat.le_add_right _ _))
    have hcast : ∀ k : Nat, ((2 ^ k : Nat) : Int) = (2 : Int) ^ k := fun k => by simp
    have bd : m * 2 ^ e.toNat / 2 ^ (-e).toNat ≤ 1099511627776 := by
      cases g with
      | false =>
        unfold Ieee.signed at k2
        simp only [Bool.false_eq_true, if_false] at k2
        rw [Nat.shiftLeft_eq] at k2
        refine key t (Or.inl rfl) ?_
        rw [← hcast] at k2
        have e3 : (1099511627776 : Int) = ((1099511627776 : Nat) : Int) := rfl
        rw [e3, ← Int.natCast_mul] at k2
        exact Int.ofNat_le.1 k2
      | true =>
        unfold Ieee.signed at k1
        simp only [if_true] at k1
        rw [Nat.shiftLeft_eq] at k1
        refine key s (Or.inr rfl) ?_
        rw [← hcast, Int.neg_mul] at k1
        have k1' := Int.neg_le_neg k1
        rw [Int.neg_neg, Int.neg_neg] at k1'
        have e3 : (1099511627776 : Int) = ((1099511627776 : Nat) : Int) := rfl
        rw [e3, ← Int.natCast_mul] at k1'
        exact Int.ofNat_le.1 k1'
    have val : -1099511627776 ≤ Ieee.signed g (m * 2 ^ e.toNat / 2 ^ (-e).toNat) 0 ∧ Ieee.signed g (m * 2 ^ e.toNat / 2 ^ (-e).toNat) 0 ≤ 1099511627776 := by
      revert bd
      generalize m * 2 ^ e.toNat / 2 ^ (-e).toNat = q
      intro bd
      unfold Ieee.signed
      rw [Nat.shiftLeft_zero]
      cases g
      · simp only [Bool.false_eq_true, if_false]; omega
      · simp only [if_true]; omega
    refine ⟨?_, val⟩
    simp only [i64_min, i64_max]
    exact decide_eq_true (by omega)

theorem signed_int (neg : Bool) (m k : Nat) : Ieee.signed neg m k = (if neg then -(m : Int) else (m : Int)) * 2 ^ k := by
  unfold Ieee.signed
  rw [Nat.shiftLeft_eq, Int.natCast_mul, Int.natCast_pow]
  cases neg
  · simp
  · simp [Int.neg_mul]

theorem cut_exact (q d : Nat) (neg : Bool) (hq : q ≠ 0) : Toward.even.cut neg (q * 2 ^ d) d = q := by
  have hd : d ≤ (q * 2 ^ d).log2 + 2 := by
    have h1 : 2 ^ d ≤ q * 2 ^ d := Nat.le_mul_of_pos_left _ (by omega)
    have h2 : q * 2 ^ d ≠ 0 := Nat.mul_ne_zero hq (by have := Nat.two_pow_pos d; omega)
    have := (Nat.le_log2 h2).2 h1
    omega
  have hp := Nat.two_pow_pos d
  unfold Toward.cut
  rw [Nat.min_eq_left hd]
  simp only [Nat.shiftLeft_eq, Nat.one_mul]
  rw [Nat.mul_div_cancel _ hp, Nat.mul_mod_left]
  have : (2 ^ d == 2 * 0) = false := by
    rw [beq_eq_false_iff_ne]
    omega
  simp [this]
theorem log2_shift (m M : Nat) (h0 : m ≠ 0) : (m * 2 ^ M).log2 = m.log2 + M := by
  have hp := Nat.two_pow_pos M
  refine (Nat.log2_eq_iff (Nat.mul_ne_zero h0 (by omega))).2 ⟨?_, ?_⟩
  · rw [Nat.pow_add]
    exact Nat.mul_le_mul_right _ (Nat.log2_self_le h0)
  · have e : 2 ^ (m.log2 + M + 1) = 2 ^ (m.log2 + 1) * 2 ^ M := by rw [← Nat.pow_add]; congr 1; omega
    rw [e]
    exact Nat.mul_lt_mul_of_pos_right Nat.lt_log2_self hp
theorem nearest_shift (neg : Bool) (m M : Nat) (h0 : m ≠ 0) (h : m < 2 ^ 53) : Ieee.double.nearest neg (m * 2 ^ M) (-(M : Int)) = Ieee.double.nearest neg m 0 := by
  rw [nearest_int neg m h0 h]
  have hl : m.log2 < 53 := log_lt h0 h
  have e1 : Ieee.double.leastPlace = -1074 := by decide
  have e2 : Ieee.double.binade = 2 ^ 52 := rfl
  have e3 : (Ieee.double.fractionBits : Int) = 52 := rfl
  have hp := Nat.two_pow_pos M
  have hm : m * 2 ^ M ≠ 0 := Nat.mul_ne_zero h0 (by omega)
  unfold Format.nearest
  rw [if_neg hm, log2_shift m M h0]
  simp only [e1, e2, e3]
  have hlast : max (-(M : Int) + ((m.log2 + M : Nat) : Int) - 52) (-1074) = (m.log2 : Int) - 52 := by omega
  rw [hlast]
  have a3 : ((m.log2 : Int) - 52 - -1074).toNat = m.log2 + 1022 := by omega
  have key : Toward.even.cut neg ((m * 2 ^ M) <<< (-(M : Int) - ((m.log2 : Int) - 52)).toNat) ((m.log2 : Int) - 52 - -(M : Int)).toNat = m * 2 ^ (52 - m.log2) := by
    rw [Nat.shiftLeft_eq]
    by_cases c : M ≤ 52 - m.log2
    · have a1 : (-(M : Int) - ((m.log2 : Int) - 52)).toNat = 52 - m.log2 - M := by omega
      have a2 : ((m.log2 : Int) - 52 - -(M : Int)).toNat = 0 := by omega
      have a5 : M + (52 - m.log2 - M) = 52 - m.log2 := by omega
      rw [a1, a2, cut0, Nat.mul_assoc, ← Nat.pow_add, a5]
    · have a1 : (-(M : Int) - ((m.log2 : Int) - 52)).toNat = 0 := by omega
      have a2 : ((m.log2 : Int) - 52 - -(M : Int)).toNat = M - (52 - m.log2) := by omega
      have a4 : m * 2 ^ M = m * 2 ^ (52 - m.log2) * 2 ^ (M - (52 - m.log2)) := by
        rw [Nat.mul_assoc, ← Nat.pow_add]
        congr 2
        omega
      rw [a1, a2, Nat.pow_zero, Nat.mul_one, a4]
      have hp2 := Nat.two_pow_pos (52 - m.log2)
      exact cut_exact _ _ _ (Nat.mul_ne_zero h0 (by omega))
  rw [key, a3]
  congr 1
  refine Nat.min_eq_left ?_
  have hlt : m * 2 ^ (52 - m.log2) < 2 ^ 53 := by
    have : m < 2 ^ (m.log2 + 1) := Nat.lt_log2_self
    calc m * 2 ^ (52 - m.log2) < 2 ^ (m.log2 + 1) * 2 ^ (52 - m.log2) := Nat.mul_lt_mul_of_pos_right this (Nat.two_pow_pos _)
      _ = 2 ^ 53 := by rw [← Nat.pow_add]; congr 1; omega
  have hinf : Ieee.double.infRung = 2047 * 2 ^ 52 := rfl
  rw [hinf]
  omega
theorem add_exact {a b : Int} (ha : Ok a) (hb : Ok b) (hab : Ok (a + b)) : FloatKind.f64.format.add (fOf a) (fOf b) = some (fOf (a + b)) := by
  obtain ⟨s, hs⟩ := reps a ha.abs
  obtain ⟨t, ht⟩ := reps b hb.abs
  have r1 : FloatKind.f64.format.read (fOf a) = _ := hs.rd
  have r2 : FloatKind.f64.format.read (fOf b) = _ := ht.rd
  obtain ⟨M, hM⟩ : ∃ M, M = max s t := ⟨_, rfl⟩
  have hbase : min (-(s : Int)) (-(t : Int)) = -(M : Int) := by omega
  have e1 : s + (-(s : Int) - min (-(s : Int)) (-(t : Int))).toNat = M := by omega
  have e2 : t + (-(t : Int) - min (-(s : Int)) (-(t : Int))).toNat = M := by omega
  unfold Format.add
  rw [r1, r2]
  simp only [Datum.sum, Option.map_some]
  rw [signed_reps, signed_reps, e1, e2, hbase, ← Int.add_mul]
  have hp := pow_pos' M
  congr 1
  by_cases c : a + b = 0
  · rw [c, Int.zero_mul]
    simp only [if_true, Int.natAbs_zero]
    have hn : (decide (a < 0) && decide (b < 0)) = false := by
      by_cases h1 : a < 0
      · have : ¬ b < 0 := by omega
        simp [this]
      · simp [h1]
    rw [hn]
    show Ieee.double.nearest false 0 (-(M : Int)) = fOf 0
    unfold Format.nearest
    rw [if_pos rfl, fOf_zero]
    rfl
  · have hne : (a + b) * 2 ^ M ≠ 0 := fun h => by
      rcases Int.mul_eq_zero.1 h with h | h
      · exact c h
      · omega
    rw [if_neg hne]
    have hsign : decide ((a + b) * 2 ^ M < 0) = decide (a + b < 0) := by
      by_cases h : a + b < 0
      · rw [decide_eq_true h]
        exact decide_eq_true (Int.mul_neg_of_neg_of_pos h hp)
      · rw [decide_eq_false h]
        refine decide_eq_false (fun h2 => ?_)
        have := Int.mul_nonneg (show 0 ≤ a + b by omega) (Int.le_of_lt hp)
        omega
    have habs : ((a + b) * 2 ^ M).natAbs = (a + b).natAbs * 2 ^ M := by
      rw [Int.natAbs_mul]
      have : ((2 : Int) ^ M) = ((2 ^ M : Nat) : Int) := by simp
      rw [this, Int.natAbs_natCast]
    rw [hsign, habs]
    show Ieee.double.nearest (decide (a + b < 0)) ((a + b).natAbs * 2 ^ M) (-(M : Int)) = fOf (a + b)
    rw [nearest_shift _ _ _ (by omega) hab.abs]
    rfl
theorem fAdd_of {a b : Int} (ha : Ok a) (hb : Ok b) (hab : Ok (a + b)) : fAddIs (fOf a) (fOf b) = true ∧ fAdd (fOf a) (fOf b) = fOf (a + b) := by
  unfold fAddIs fAdd
  rw [add_exact ha hb hab]
  exact ⟨rfl, rfl⟩
end Go.Ai.F64
