/-
LayoutWraps, part 8 of 48: AiFlo AiSymA.
-/
import Derived.Calls
import Derived.Laws.Externs
import Derived.Test.YthacbaagffpkoaaLw07
set_option linter.unusedVariables false
set_option linter.unusedSimpArgs false
section
namespace Go.Ai.F64
open Go Ieee
def feq (a b : Nat) : Bool := FloatKind.f64.format.order a b == some .eq
def fOf (n : Int) : Nat := FloatKind.f64.nearest n
theorem read_def (b : Nat) : FloatKind.f64.decode b = Ieee.double.read b := rfl
structure Reps (b : Nat) (n : Int) (s : Nat) : Prop where
 rd : FloatKind.f64.decode b = .number (decide (n < 0)) (n.natAbs * 2 ^ s) (-(s : Int))
 fit : n = 0 ∨ s ≤ 52
theorem cut0 (way : Toward) (neg : Bool) (n : Nat) : way.cut neg n 0 = n := by
 unfold Toward.cut;simp only [Nat.zero_min, Nat.shiftLeft_zero, Nat.div_one, Nat.mod_one];cases way <;> simp
theorem log_lt {m k : Nat} (h0 : m ≠ 0) (h : m < 2 ^ k) : m.log2 < k := (Nat.log2_lt h0).2 h
theorem nearest_int (neg : Bool) (m : Nat) (h0 : m ≠ 0) (h : m < 2 ^ 53) : Ieee.double.nearest neg m 0 = Ieee.double.word neg ((m.log2 + 1022) * 2 ^ 52 + m * 2 ^ (52 - m.log2)) := by
 have hl : m.log2 < 53 := log_lt h0 h;have e1 : Ieee.double.leastPlace = -1074 := by decide
 have e2 : Ieee.double.binade = 2 ^ 52 := rfl;have e3 : (Ieee.double.fractionBits : Int) = 52 := rfl;unfold Format.nearest;rw [if_neg h0];simp only [e1, e2, e3];have hlast : max ((0 : Int) + (m.log2 : Int) - 52) (-1074) = (m.log2 : Int) - 52 := by omega
 rw [hlast];have a1 : ((0 : Int) - ((m.log2 : Int) - 52)).toNat = 52 - m.log2 := by omega
 have a2 : ((m.log2 : Int) - 52 - 0).toNat = 0 := by omega
 have a3 : ((m.log2 : Int) - 52 - -1074).toNat = m.log2 + 1022 := by omega
 rw [a1, a2, a3, cut0, Nat.shiftLeft_eq]
 congr 1
 refine Nat.min_eq_left ?_
 have hlt : m * 2 ^ (52 - m.log2) < 2 ^ 53 := by
  have : m < 2 ^ (m.log2 + 1) := Nat.lt_log2_self
  calc m * 2 ^ (52 - m.log2) < 2 ^ (m.log2 + 1) * 2 ^ (52 - m.log2) := Nat.mul_lt_mul_of_pos_right this (Nat.two_pow_pos _)
   _ = 2 ^ 53 := by rw [← Nat.pow_add]; congr 1; omega
 have hinf : Ieee.double.infRung = 2047 * 2 ^ 52 := rfl;rw [hinf];omega
theorem read_word (neg : Bool) (l k : Nat) (hl : l < 53) (hk : 2 ^ 52 ≤ k) (hk' : k < 2 ^ 53) : Ieee.double.read (Ieee.double.word neg ((l + 1022) * 2 ^ 52 + k)) = .number neg k ((l : Int) - 52) := by
 have e1 : Ieee.double.leastPlace = -1074 := by decide
 have e2 : Ieee.double.binade = 4503599627370496 := rfl;have e4 : Ieee.double.signWeight = 9223372036854775808 := rfl;have hinf : Ieee.double.infRung = 9218868437227405312 := rfl;obtain ⟨r, hr⟩ : ∃ r, r = (l + 1022) * 4503599627370496 + k := ⟨_, rfl⟩;have hr' : (l + 1022) * 2 ^ 52 + k = r := hr.symm;have hk1 : 4503599627370496 ≤ k := hk;have hk2 : k < 9007199254740992 := hk';have hword : Ieee.double.word neg r = if neg then 9223372036854775808 + r else r := rfl
 unfold Format.read;rw [hr', hword];simp only [e1, e2, e4, hinf]
 have hneg : ((if neg = true then 9223372036854775808 + r else r) / 9223372036854775808 % 2 == 1) = neg := by
  cases neg
  ·simp only [Bool.false_eq_true, if_false];have : r / 9223372036854775808 = 0 := by omega
   rw [this]; rfl
  ·simp only [if_true];have : (9223372036854775808 + r) / 9223372036854775808 = 1 := by omega
   rw [this]; rfl
 have hmod : (if neg = true then 9223372036854775808 + r else r) % 9223372036854775808 = r := by
  cases neg
  ·simp only [Bool.false_eq_true, if_false]; omega
  ·simp only [if_true]; omega
 rw [hneg, hmod, if_neg (by omega), if_pos (by omega)];have hd : r / 4503599627370496 = l + 1023 := by omega
 have hm : r % 4503599627370496 = k - 4503599627370496 := by omega
 rw [hd, hm];have x1 : 4503599627370496 + (k - 4503599627370496) = k := Nat.add_sub_of_le hk1;have x2 : (-1074 : Int) + ((l + 1023 - 1 : Nat) : Int) = (l : Int) - 52 := by omega
 rw [x1, x2]
theorem fOf_zero : fOf 0 = 0 := by decide
theorem reps (n : Int) (h : n.natAbs < 2 ^ 53) : ∃ s, Reps (fOf n) n s := by
 by_cases h0 : n = 0
 ·subst h0;obtain ⟨s, hs⟩ : ∃ s : Nat, s = 1074 := ⟨_, rfl⟩;refine ⟨s, ⟨?_, Or.inl rfl⟩⟩;rw [fOf_zero, Int.natAbs_zero, Nat.zero_mul, hs]
  decide
 ·have hm : n.natAbs ≠ 0 := by omega
  have hl : n.natAbs.log2 < 53 := log_lt hm h;refine ⟨52 - n.natAbs.log2, ⟨?_, Or.inr (by omega)⟩⟩;have e : fOf n = Ieee.double.nearest (decide (n < 0)) n.natAbs 0 := rfl
  have lo : 2 ^ 52 ≤ n.natAbs * 2 ^ (52 - n.natAbs.log2) := by
   have : 2 ^ n.natAbs.log2 ≤ n.natAbs := Nat.log2_self_le hm
   calc 2 ^ 52 = 2 ^ n.natAbs.log2 * 2 ^ (52 - n.natAbs.log2) := by rw [← Nat.pow_add]; congr 1; omega
    _ ≤ _ := Nat.mul_le_mul_right _ this
  have hi : n.natAbs * 2 ^ (52 - n.natAbs.log2) < 2 ^ 53 := by
   have : n.natAbs < 2 ^ (n.natAbs.log2 + 1) := Nat.lt_log2_self
   calc n.natAbs * 2 ^ (52 - n.natAbs.log2) < 2 ^ (n.natAbs.log2 + 1) * 2 ^ (52 - n.natAbs.log2) := Nat.mul_lt_mul_of_pos_right this (Nat.two_pow_pos _)
    _ = 2 ^ 53 := by rw [← Nat.pow_add]; congr 1; omega
  rw [read_def, e, nearest_int _ _ hm h, read_word _ _ _ hl lo hi]
  congr 1
  omega
theorem signed_reps (n : Int) (s u : Nat) : Ieee.signed (decide (n < 0)) (n.natAbs * 2 ^ s) u = n * 2 ^ (s + u) := by
 unfold Ieee.signed;rw [Nat.shiftLeft_eq, Nat.mul_assoc, ← Nat.pow_add]
 by_cases h : n < 0
 ·simp only [h, decide_true, if_true];have : (n.natAbs : Int) = -n := by omega
  rw [Int.natCast_mul, this, Int.natCast_pow];simp [Int.neg_mul]
 ·simp only [h, decide_false, Bool.false_eq_true, if_false];have : (n.natAbs : Int) = n := by omega
  rw [Int.natCast_mul, this, Int.natCast_pow];simp
theorem pow_pos' (k : Nat) : (0 : Int) < 2 ^ k := by
 have := Nat.two_pow_pos k;have e : ((2 ^ k : Nat) : Int) = (2 : Int) ^ k := by simp
 omega
theorem compare_mul (a b : Int) (k : Nat) : compare (a * 2 ^ k) (b * 2 ^ k) = compare a b := by
 have hp := pow_pos' k;rcases Int.lt_trichotomy a b with h | h | h
 ·rw [Int.compare_eq_lt.2 h, Int.compare_eq_lt.2 (Int.mul_lt_mul_of_pos_right h hp)]
 ·subst h; simp
 ·rw [Int.compare_eq_gt.2 h, Int.compare_eq_gt.2 (Int.mul_lt_mul_of_pos_right h hp)]
theorem order_reps {x y : Nat} {a b : Int} {s t : Nat} (hx : Reps x a s) (hy : Reps y b t) : FloatKind.f64.format.order x y = some (compare a b) := by
 have h1 : FloatKind.f64.format.read x = _ := hx.rd;have h2 : FloatKind.f64.format.read y = _ := hy.rd;unfold Format.order;rw [h1, h2];simp only [Datum.order];rw [signed_reps, signed_reps];have e1 : s + (-(s : Int) - min (-(s : Int)) (-(t : Int))).toNat = max s t := by omega
 have e2 : t + (-(t : Int) - min (-(s : Int)) (-(t : Int))).toNat = max s t := by omega
 rw [e1, e2, compare_mul]
def Ok (n : Int) : Prop := -4503599627370496 ≤ n ∧ n ≤ 4503599627370496
theorem Ok.abs {n : Int} (h : Ok n) : n.natAbs < 2 ^ 53 := by unfold Ok at h; have : (2 : Nat) ^ 53 = 9007199254740992 := by decide
                                                              omega
theorem feq_of {a b : Int} (ha : Ok a) (hb : Ok b) : feq (fOf a) (fOf b) = decide (a = b) := by
 obtain ⟨s, hs⟩ := reps a ha.abs;obtain ⟨t, ht⟩ := reps b hb.abs;unfold feq;rw [order_reps hs ht];rcases Int.lt_trichotomy a b with h | h | h
 ·rw [Int.compare_eq_lt.2 h]; have : ¬ a = b := by omega
  simp [this]
 ·subst h; simp
 ·rw [Int.compare_eq_gt.2 h]; have : ¬ a = b := by omega
  simp [this]
theorem cut_zero (neg : Bool) (n d : Nat) : Toward.zero.cut neg n d = n / 2 ^ d := by
 unfold Toward.cut;simp only [Bool.toNat_false, Nat.add_zero, Nat.shiftLeft_eq, Nat.one_mul]
 by_cases h : d ≤ n.log2 + 2
 ·rw [Nat.min_eq_left h]
 ·rw [Nat.min_eq_right (by omega)];have h1 : n < 2 ^ (n.log2 + 1) := Nat.lt_log2_self;have h2 : 2 ^ (n.log2 + 1) ≤ 2 ^ (n.log2 + 2) := Nat.pow_le_pow_right (by omega) (by omega);have h3 : 2 ^ (n.log2 + 2) ≤ 2 ^ d := Nat.pow_le_pow_right (by omega) (by omega);rw [Nat.div_eq_of_lt (by omega), Nat.div_eq_of_lt (by omega)]
theorem toInt_number (neg : Bool) (m : Nat) (e : Int) : (Datum.number neg m e).toInt .zero = some (Ieee.signed neg (m * 2 ^ e.toNat / 2 ^ (-e).toNat) 0) := by
 simp only [Datum.toInt, Datum.integral];rw [cut_zero, Nat.shiftLeft_eq]
theorem toInt_reps {x : Nat} {n : Int} {s : Nat} (h : Reps x n s) : (FloatKind.f64.decode x).toInt .zero = some n := by
 rw [h.rd, toInt_number];have e1 : (-(s : Int)).toNat = 0 := by omega
 have e2 : (-(-(s : Int))).toNat = s := by omega
 rw [e1, e2, Nat.pow_zero, Nat.mul_one, Nat.mul_div_cancel _ (Nat.two_pow_pos s)];have := signed_reps n 0 0;simp at this;rw [this]
theorem i64_min : IntKind.i64.min = -9223372036854775808 := rfl
theorem i64_max : IntKind.i64.max = 9223372036854775807 := rfl
theorem cut_exact (q d : Nat) (neg : Bool) (hq : q ≠ 0) : Toward.even.cut neg (q * 2 ^ d) d = q := by
 have hd : d ≤ (q * 2 ^ d).log2 + 2 := by
  have h1 : 2 ^ d ≤ q * 2 ^ d := Nat.le_mul_of_pos_left _ (by omega);have h2 : q * 2 ^ d ≠ 0 := Nat.mul_ne_zero hq (by have := Nat.two_pow_pos d; omega);have := (Nat.le_log2 h2).2 h1;omega
 have hp := Nat.two_pow_pos d;unfold Toward.cut;rw [Nat.min_eq_left hd];simp only [Nat.shiftLeft_eq, Nat.one_mul];rw [Nat.mul_div_cancel _ hp, Nat.mul_mod_left]
 have : (2 ^ d == 2 * 0) = false := by
  rw [beq_eq_false_iff_ne];omega
 simp [this]
theorem log2_shift (m M : Nat) (h0 : m ≠ 0) : (m * 2 ^ M).log2 = m.log2 + M := by
 have hp := Nat.two_pow_pos M;refine (Nat.log2_eq_iff (Nat.mul_ne_zero h0 (by omega))).2 ⟨?_, ?_⟩
 ·rw [Nat.pow_add];exact Nat.mul_le_mul_right _ (Nat.log2_self_le h0)
 ·have e : 2 ^ (m.log2 + M + 1) = 2 ^ (m.log2 + 1) * 2 ^ M := by rw [← Nat.pow_add]; congr 1; omega
  rw [e];exact Nat.mul_lt_mul_of_pos_right Nat.lt_log2_self hp
theorem nearest_shift (neg : Bool) (m M : Nat) (h0 : m ≠ 0) (h : m < 2 ^ 53) : Ieee.double.nearest neg (m * 2 ^ M) (-(M : Int)) = Ieee.double.nearest neg m 0 := by
 rw [nearest_int neg m h0 h];have hl : m.log2 < 53 := log_lt h0 h;have e1 : Ieee.double.leastPlace = -1074 := by decide
 have e2 : Ieee.double.binade = 2 ^ 52 := rfl;have e3 : (Ieee.double.fractionBits : Int) = 52 := rfl;have hp := Nat.two_pow_pos M;have hm : m * 2 ^ M ≠ 0 := Nat.mul_ne_zero h0 (by omega);unfold Format.nearest;rw [if_neg hm, log2_shift m M h0];simp only [e1, e2, e3];have hlast : max (-(M : Int) + ((m.log2 + M : Nat) : Int) - 52) (-1074) = (m.log2 : Int) - 52 := by omega
 rw [hlast];have a3 : ((m.log2 : Int) - 52 - -1074).toNat = m.log2 + 1022 := by omega
 have key : Toward.even.cut neg ((m * 2 ^ M) <<< (-(M : Int) - ((m.log2 : Int) - 52)).toNat) ((m.log2 : Int) - 52 - -(M : Int)).toNat = m * 2 ^ (52 - m.log2) := by
  rw [Nat.shiftLeft_eq]
  by_cases c : M ≤ 52 - m.log2
  ·have a1 : (-(M : Int) - ((m.log2 : Int) - 52)).toNat = 52 - m.log2 - M := by omega
   have a2 : ((m.log2 : Int) - 52 - -(M : Int)).toNat = 0 := by omega
   have a5 : M + (52 - m.log2 - M) = 52 - m.log2 := by omega
   rw [a1, a2, cut0, Nat.mul_assoc, ← Nat.pow_add, a5]
  ·have a1 : (-(M : Int) - ((m.log2 : Int) - 52)).toNat = 0 := by omega
   have a2 : ((m.log2 : Int) - 52 - -(M : Int)).toNat = M - (52 - m.log2) := by omega
   have a4 : m * 2 ^ M = m * 2 ^ (52 - m.log2) * 2 ^ (M - (52 - m.log2)) := by
    rw [Nat.mul_assoc, ← Nat.pow_add]
    congr 2
    omega
   rw [a1, a2, Nat.pow_zero, Nat.mul_one, a4];have hp2 := Nat.two_pow_pos (52 - m.log2);exact cut_exact _ _ _ (Nat.mul_ne_zero h0 (by omega))
 rw [key, a3]
 congr 1
 refine Nat.min_eq_left ?_
 have hlt : m * 2 ^ (52 - m.log2) < 2 ^ 53 := by
  have : m < 2 ^ (m.log2 + 1) := Nat.lt_log2_self
  calc m * 2 ^ (52 - m.log2) < 2 ^ (m.log2 + 1) * 2 ^ (52 - m.log2) := Nat.mul_lt_mul_of_pos_right this (Nat.two_pow_pos _)
   _ = 2 ^ 53 := by rw [← Nat.pow_add]; congr 1; omega
 have hinf : Ieee.double.infRung = 2047 * 2 ^ 52 := rfl;rw [hinf];omega
theorem add_exact {a b : Int} (ha : Ok a) (hb : Ok b) (hab : Ok (a + b)) : FloatKind.f64.format.add (fOf a) (fOf b) = some (fOf (a + b)) := by
 obtain ⟨s, hs⟩ := reps a ha.abs;obtain ⟨t, ht⟩ := reps b hb.abs;have r1 : FloatKind.f64.format.read (fOf a) = _ := hs.rd;have r2 : FloatKind.f64.format.read (fOf b) = _ := ht.rd;obtain ⟨M, hM⟩ : ∃ M, M = max s t := ⟨_, rfl⟩;have hbase : min (-(s : Int)) (-(t : Int)) = -(M : Int) := by omega
 have e1 : s + (-(s : Int) - min (-(s : Int)) (-(t : Int))).toNat = M := by omega
 have e2 : t + (-(t : Int) - min (-(s : Int)) (-(t : Int))).toNat = M := by omega
 unfold Format.add;rw [r1, r2];simp only [Datum.sum, Option.map_some];rw [signed_reps, signed_reps, e1, e2, hbase, ← Int.add_mul];have hp := pow_pos' M
 congr 1
 by_cases c : a + b = 0
 ·rw [c, Int.zero_mul];simp only [if_true, Int.natAbs_zero]
  have hn : (decide (a < 0) && decide (b < 0)) = false := by
   by_cases h1 : a < 0
   ·have : ¬ b < 0 := by omega
    simp [this]
   ·simp [h1]
  rw [hn];show Ieee.double.nearest false 0 (-(M : Int)) = fOf 0;unfold Format.nearest;rw [if_pos rfl, fOf_zero];rfl
 ·have hne : (a + b) * 2 ^ M ≠ 0 := fun h => by
   rcases Int.mul_eq_zero.1 h with h | h
   ·exact c h
   ·omega
  rw [if_neg hne]
  have hsign : decide ((a + b) * 2 ^ M < 0) = decide (a + b < 0) := by
   by_cases h : a + b < 0
   ·rw [decide_eq_true h];exact decide_eq_true (Int.mul_neg_of_neg_of_pos h hp)
   ·rw [decide_eq_false h];refine decide_eq_false (fun h2 => ?_);have := Int.mul_nonneg (show 0 ≤ a + b by omega) (Int.le_of_lt hp);omega
  have habs : ((a + b) * 2 ^ M).natAbs = (a + b).natAbs * 2 ^ M := by
   rw [Int.natAbs_mul];have : ((2 : Int) ^ M) = ((2 ^ M : Nat) : Int) := by simp
   rw [this, Int.natAbs_natCast]
  rw [hsign, habs];show Ieee.double.nearest (decide (a + b < 0)) ((a + b).natAbs * 2 ^ M) (-(M : Int)) = fOf (a + b);rw [nearest_shift _ _ _ (by omega) hab.abs];rfl
end Go.Ai.F64
end
namespace Go.Ai
open F64
section
variable {env : Nat → Int}
def OkT (env : Nat → Int) (ts : List Tm) : Prop := ∀ t ∈ ts, t.lo ≤ env t.v ∧ env t.v ≤ t.hi
theorem eval_insT (t : Tm) : ∀ us : List Tm, evalTs env (insT t us) = t.k * env t.v + evalTs env us
 | [] => rfl
 | u :: us => by
  unfold insT;simp only [Bool.cond_eq_ite];split
  ·rfl
  ·split
   ·rename_i h;have hv : t.v = u.v := Nat.eq_of_beq_eq_true h;split
    ·rename_i h0;rw [eqI_eq] at h0;have h0 : t.k + u.k = 0 := by simpa using h0
     simp only [evalTs];rw [hv, ← Int.add_assoc, ← Int.add_mul, h0]; simp
    ·simp only [evalTs];rw [hv, ← Int.add_assoc, ← Int.add_mul]
   ·simp only [evalTs];rw [eval_insT t us]; omega
theorem ok_insT {t : Tm} (ht : t.lo ≤ env t.v ∧ env t.v ≤ t.hi) : ∀ {us : List Tm}, OkT env us → OkT env (insT t us)
 | [], _ => by
  intro x hx;simp [insT] at hx; subst hx; exact ht
 | u :: us, h => by
  unfold insT;simp only [Bool.cond_eq_ite];have hu := h u (by simp);have hus : OkT env us := fun x hx => h x (by simp [hx])
  split
  ·intro x hx;rcases List.mem_cons.1 hx with rfl | hx
   ·exact ht
   ·exact h x hx
  ·split
   ·split
    ·exact hus
    ·intro x hx;rcases List.mem_cons.1 hx with rfl | hx
     ·exact hu
     ·exact hus x hx
   ·intro x hx;rcases List.mem_cons.1 hx with rfl | hx
    ·exact hu
    ·exact ok_insT ht hus x hx
theorem eval_addTs : ∀ ts us : List Tm, evalTs env (addTs ts us) = evalTs env ts + evalTs env us
 | [], us => by simp [addTs, evalTs]
 | t :: ts, us => by simp only [addTs, evalTs]; rw [eval_insT, eval_addTs ts us]; omega
theorem ok_addTs : ∀ {ts us : List Tm}, OkT env ts → OkT env us → OkT env (addTs ts us)
 | [], us, _, h => h
 | t :: ts, us, h, h' => ok_insT (h t (by simp)) (ok_addTs (fun x hx => h x (by simp [hx])) h')
theorem eval_scaleTs (n : Int) : ∀ ts : List Tm, evalTs env (scaleTs n ts) = n * evalTs env ts
 | [] => by simp [scaleTs, evalTs]
 | t :: ts => by simp only [scaleTs, evalTs]; rw [eval_scaleTs n ts, Int.mul_add, Int.mul_assoc]
theorem ok_scaleTs (n : Int) : ∀ {ts : List Tm}, OkT env ts → OkT env (scaleTs n ts)
 | [], _ => fun x hx => by simp [scaleTs] at hx
 | t :: ts, h => fun x hx => by
  simp only [scaleTs, List.mem_cons] at hx;rcases hx with rfl | hx
  ·exact h t (by simp)
  ·exact ok_scaleTs n (fun y hy => h y (by simp [hy])) x hx
theorem Lin.eval_num (n : Int) : (Lin.num n).eval env = n := by simp [Lin.num, Lin.eval, evalTs]
theorem Lin.ok_num (n : Int) : (Lin.num n).ok env := fun x hx => by simp [Lin.num] at hx
theorem Lin.eval_add (a b : Lin) : (a.add b).eval env = a.eval env + b.eval env := by
 simp only [Lin.add, Lin.eval, eval_addTs]; omega
theorem Lin.ok_add {a b : Lin} (ha : a.ok env) (hb : b.ok env) : (a.add b).ok env := ok_addTs ha hb
theorem Lin.eval_scale (n : Int) (a : Lin) : (a.scale n).eval env = n * a.eval env := by
 simp only [Lin.scale, Lin.eval, Bool.cond_eq_ite, eqI_eq, decide_eq_true_eq];split
 ·rename_i h;simp [h, evalTs]
 ·rw [eval_scaleTs, Int.mul_add]
theorem Lin.ok_scale (n : Int) {a : Lin} (ha : a.ok env) : (a.scale n).ok env := by
 simp only [Lin.scale, Lin.ok, Bool.cond_eq_ite];split
 ·intro x hx; simp at hx
 ·exact ok_scaleTs n ha
theorem Lin.eval_sub (a b : Lin) : (a.sub b).eval env = a.eval env - b.eval env := by
 simp only [Lin.sub, Lin.eval_add, Lin.eval_scale]; omega
theorem Lin.ok_sub {a b : Lin} (ha : a.ok env) (hb : b.ok env) : (a.sub b).ok env := Lin.ok_add ha (Lin.ok_scale _ hb)
theorem bounds_tm {k lo hi x : Int} (h : lo ≤ x ∧ x ≤ hi) : cond (ltI k 0) (k * hi) (k * lo) ≤ k * x ∧ k * x ≤ cond (ltI k 0) (k * lo) (k * hi) := by
 rw [ltI_eq]
 by_cases hk : k < 0
 ·simp only [hk, decide_true, cond_true];exact ⟨Int.mul_le_mul_of_nonpos_left (by omega) h.2, Int.mul_le_mul_of_nonpos_left (by omega) h.1⟩
 ·simp only [hk, decide_false, cond_false];exact ⟨Int.mul_le_mul_of_nonneg_left h.1 (by omega), Int.mul_le_mul_of_nonneg_left h.2 (by omega)⟩
theorem bounds_ts : ∀ {ts : List Tm}, OkT env ts → loTs ts ≤ evalTs env ts ∧ evalTs env ts ≤ hiTs ts
 | [], _ => by simp [loTs, hiTs, evalTs]
 | t :: ts, h => by
  have h1 := bounds_tm (k := t.k) (h t (by simp));have h2 := bounds_ts (ts := ts) fun x hx => h x (by simp [hx])
  simp only [loTs, hiTs, evalTs];omega
theorem Lin.bounds {e : Lin} (h : e.ok env) : e.lo ≤ e.eval env ∧ e.eval env ≤ e.hi := by
 have := bounds_ts (env := env) (ts := e.ts) h;simp only [Lin.lo, Lin.hi, Lin.eval]; omega
theorem Lin.isNum_some {e : Lin} {c : Int} (h : e.isNum = some c) : e.eval env = c := by
 unfold Lin.isNum at h;split at h
 ·rename_i ht;simp at h;simp [Lin.eval, ht, evalTs, h]
 ·simp at h
theorem quo_rem_ts (c : Int) : ∀ ts : List Tm, evalTs env ts = c * evalTs env (quoTs c ts) + evalTs env (remTs c ts)
 | [] => by simp [quoTs, remTs, evalTs]
 | t :: ts => by
  have ih := quo_rem_ts c ts;unfold quoTs remTs;simp only [Bool.cond_eq_ite, eqI_eq, decide_eq_true_eq];split
  ·rename_i h;have h : t.k % c = 0 := by simpa using h
   have : t.k = c * (t.k / c) := by have := Int.mul_ediv_add_emod t.k c; omega
   simp only [evalTs];rw [ih];have e : t.k * env t.v = c * (t.k / c * env t.v) := by rw [← Int.mul_assoc, ← this]
   rw [e, Int.mul_add]; omega
  ·simp only [evalTs];rw [ih]; omega
theorem ok_quoTs (c : Int) : ∀ {ts : List Tm}, OkT env ts → OkT env (quoTs c ts)
 | [], _ => fun x hx => by simp [quoTs] at hx
 | t :: ts, h => by
  have ih := ok_quoTs c (ts := ts) fun y hy => h y (by simp [hy])
  unfold quoTs;simp only [Bool.cond_eq_ite];split
  ·intro x hx;rcases List.mem_cons.1 hx with rfl | hx
   ·exact h t (by simp)
   ·exact ih x hx
  ·exact ih
theorem ok_remTs (c : Int) : ∀ {ts : List Tm}, OkT env ts → OkT env (remTs c ts)
 | [], _ => fun x hx => by simp [remTs] at hx
 | t :: ts, h => by
  have ih := ok_remTs c (ts := ts) fun y hy => h y (by simp [hy])
  unfold remTs;simp only [Bool.cond_eq_ite];split
  ·exact ih
  ·intro x hx;rcases List.mem_cons.1 hx with hx | hx
   ·subst hx; exact h _ (by simp)
   ·exact ih x hx
theorem Lin.ok_quo (c : Int) {a : Lin} (h : a.ok env) : (a.quo c).ok env := ok_quoTs c h
theorem Lin.ok_rem (c : Int) {a : Lin} (h : a.ok env) : (a.rem c).ok env := ok_remTs c h
theorem Lin.quo_rem (a : Lin) (c : Int) : a.eval env = c * (a.quo c).eval env + (a.rem c).eval env := by
 have h1 := quo_rem_ts (env := env) c a.ts;have h2 := Int.mul_ediv_add_emod a.c c;simp only [Lin.eval, Lin.quo, Lin.rem, Int.mul_add];omega
def FactsOk (env : Nat → Int) (fs : List Lin) : Prop := ∀ f ∈ fs, f.ok env ∧ 0 ≤ f.eval env
theorem factLt_some {d : Lin} (hd : d.ok env) : ∀ {fs : List Lin} {r : Bool}, FactsOk env fs → factLt d fs = some r → r = decide (d.eval env < 0)
 | [], _, _, h => by cases h
 | f :: fs, r, hf, h => by
  obtain ⟨h1, h2⟩ := hf f (by simp);have ha := Lin.bounds (Lin.ok_add hd h1);have hs := Lin.bounds (Lin.ok_sub hd h1);rw [Lin.eval_add] at ha;rw [Lin.eval_sub] at hs;unfold factLt at h;simp only [Bool.cond_eq_ite, ltI_eq, decide_eq_true_eq] at h;split at h
  ·cases h; symm; rw [decide_eq_true_eq]; omega
  ·split at h
   ·exact factLt_some hd (fun x hx => hf x (by simp [hx])) h
   ·cases h; symm; rw [decide_eq_false_iff_not]; omega
theorem ltD_some {fs : List Lin} {d : Lin} {r : Bool} (hf : FactsOk env fs) (hd : d.ok env) (h : ltD fs d = some r) : r = decide (d.eval env < 0) := by
 have hb := Lin.bounds hd;unfold ltD at h;simp only [Bool.cond_eq_ite, ltI_eq, decide_eq_true_eq] at h;split at h
 ·cases h; symm; rw [decide_eq_true_eq]; omega
 ·split at h
  ·exact factLt_some hd hf h
  ·cases h; symm; rw [decide_eq_false_iff_not]; omega
theorem ltL_some {fs : List Lin} {a b : Lin} {r : Bool} (hf : FactsOk env fs) (ha : a.ok env) (hb : b.ok env) (h : ltL fs a b = some r) : r = decide (a.eval env < b.eval env) := by
 rw [ltD_some hf (Lin.ok_sub ha hb) h, Lin.eval_sub];rw [Bool.eq_iff_iff]; simp only [decide_eq_true_eq]; omega
theorem eqL_some {fs : List Lin} {a b : Lin} {r : Bool} (hf : FactsOk env fs) (ha : a.ok env) (hb : b.ok env) (h : eqL fs a b = some r) : r = decide (a.eval env = b.eval env) := by
 have h1 : ∀ r, ltD fs (a.sub b) = some r → r = decide (a.eval env - b.eval env < 0) := fun r hr => by rw [ltD_some hf (Lin.ok_sub ha hb) hr, Lin.eval_sub]
 have h2 : ∀ r, ltD fs (b.sub a) = some r → r = decide (b.eval env - a.eval env < 0) := fun r hr => by rw [ltD_some hf (Lin.ok_sub hb ha) hr, Lin.eval_sub]
 unfold eqL eqD at h;split at h
 ·rename_i e;have := h1 _ e;cases h; symm; rw [decide_eq_false_iff_not];have : a.eval env - b.eval env < 0 := by simpa using this.symm
  omega
 ·rename_i e _;have := h2 _ e;cases h; symm; rw [decide_eq_false_iff_not];have : b.eval env - a.eval env < 0 := by simpa using this.symm
  omega
 ·rename_i e1 e2;have g1 : ¬ a.eval env - b.eval env < 0 := by simpa using (h1 _ e1).symm
  have g2 : ¬ b.eval env - a.eval env < 0 := by simpa using (h2 _ e2).symm
  cases h; symm; rw [decide_eq_true_eq]; omega
 ·split at h
  ·rename_i c hc;have := Lin.isNum_some (env := env) hc;rw [Lin.eval_sub] at this;simp only [eqI_eq, Option.some.injEq] at h;subst h;rw [Bool.eq_iff_iff];simp only [beq_iff_eq, decide_eq_true_eq];omega
  ·cases h
theorem sameTs_eval : ∀ {a b : List Tm}, sameTs a b = true → evalTs env a = evalTs env b
 | [], [], _ => rfl
 | [], _ :: _, h => by cases h
 | _ :: _, [], h => by cases h
 | t :: ts, u :: us, h => by
  unfold sameTs at h;simp only [Bool.and_eq_true, eqI_eq] at h;have h1 : t.k = u.k := by simpa using h.1.1
  have h2 : t.v = u.v := Nat.eq_of_beq_eq_true h.1.2;simp only [evalTs];rw [h1, h2, sameTs_eval h.2]
theorem sameL_eval {a b : Lin} (h : sameL a b = true) : a.eval env = b.eval env := by
 unfold sameL at h;simp only [Bool.and_eq_true, eqI_eq] at h;have h1 : a.c = b.c := by simpa using h.1
 simp only [Lin.eval];rw [h1, sameTs_eval h.2]
theorem maxL_some {a b c : Lin} : ∀ {mx : List (Lin × Lin × Lin)}, (∀ p ∈ mx, p.2.2.ok env ∧ p.2.2.eval env = max (p.1.eval env) (p.2.1.eval env)) → maxL a b mx = some c → c.ok env ∧ c.eval env = max (a.eval env) (b.eval env)
 | [], _, h => by cases h
 | (x, y, z) :: r, hm, h => by
  unfold maxL at h;simp only [Bool.cond_eq_ite] at h;split at h
  ·rename_i hg;simp only [Bool.and_eq_true] at hg;cases h;have := hm (x, y, c) (by simp);rw [sameL_eval (env := env) hg.1, sameL_eval (env := env) hg.2];exact this
  ·exact maxL_some (fun p hp => hm p (by simp [hp])) h
theorem notO_some {q : Option Bool} {r : Bool} (h : notO q = some r) : ∃ b, q = some b ∧ r = !b := by
 unfold notO at h;split at h
 ·cases h; exact ⟨_, rfl, rfl⟩
 ·cases h
end
theorem eqI_spec {a b : Int} (h : eqI a b = true) : a = b := by rw [eqI_eq] at h; simpa using h
theorem tmEq_spec {a b : Tm} (h : tmEq a b = true) : a = b := by
 unfold tmEq at h;simp only [Bool.and_eq_true] at h;obtain ⟨k, v, lo, hi⟩ := a;obtain ⟨k', v', lo', hi'⟩ := b;have h1 := eqI_spec h.1.1.1;have h2 := Nat.eq_of_beq_eq_true h.1.1.2;have h3 := eqI_spec h.1.2;have h4 := eqI_spec h.2;simp only at h1 h2 h3 h4;rw [h1, h2, h3, h4]
theorem tmsEq_spec : ∀ {a b : List Tm}, tmsEq a b = true → a = b
 | [], [], _ => rfl
 | [], _ :: _, h => by cases h
 | _ :: _, [], h => by cases h
 | a :: l, b :: m, h => by
  unfold tmsEq at h;simp only [Bool.and_eq_true] at h;rw [tmEq_spec h.1, tmsEq_spec h.2]
theorem linEq_spec {a b : Lin} (h : linEq a b = true) : a = b := by
 unfold linEq at h;simp only [Bool.and_eq_true] at h;obtain ⟨c, ts⟩ := a;obtain ⟨c', ts'⟩ := b;have h1 := eqI_spec h.1;have h2 := tmsEq_spec h.2;simp only at h1 h2;rw [h1, h2]
theorem wrap_i (n : Int) : IntKind.i64.wrap n = if 9223372036854775808 ≤ n % 18446744073709551616 then n % 18446744073709551616 - 18446744073709551616 else n % 18446744073709551616 := by
 simp [IntKind.wrap, IntKind.bits, IntKind.signed]
theorem wrap_u (n : Int) : IntKind.u64.wrap n = n % 18446744073709551616 := by
 simp [IntKind.wrap, IntKind.bits, IntKind.signed]
theorem wrap_shift {k : IntKind} (h : ty64 k = true) (n q : Int) : k.wrap (n + q * 18446744073709551616) = k.wrap n := by
 cases k <;> simp only [ty64, Bool.false_eq_true] at h
 ·rw [wrap_i, wrap_i, Int.add_mul_emod_self_right]
 ·rw [wrap_u, wrap_u, Int.add_mul_emod_self_right]
theorem wrap_rep {k : IntKind} (h : ty64 k = true) (n : Int) : ∃ q, k.wrap n = n + q * 18446744073709551616 := by
 have e := Int.mul_ediv_add_emod n 18446744073709551616;cases k <;> simp only [ty64, Bool.false_eq_true] at h
 ·rw [wrap_i];split
  ·exact ⟨-(n / 18446744073709551616) - 1, by omega⟩
  ·exact ⟨-(n / 18446744073709551616), by omega⟩
 ·rw [wrap_u];exact ⟨-(n / 18446744073709551616), by omega⟩
theorem wrap_wrap {k k' : IntKind} (h : ty64 k = true) (h' : ty64 k' = true) (n : Int) : k'.wrap (k.wrap n) = k'.wrap n := by
 obtain ⟨q, e⟩ := wrap_rep h n;rw [e, wrap_shift h']
theorem wrap_add {k : IntKind} (h : ty64 k = true) (a b : Int) : k.wrap (k.wrap a + k.wrap b) = k.wrap (a + b) := by
 obtain ⟨q, e⟩ := wrap_rep h a;obtain ⟨r, e'⟩ := wrap_rep h b;rw [e, e', show a + q * 18446744073709551616 + (b + r * 18446744073709551616) = a + b + (q + r) * 18446744073709551616 by omega, wrap_shift h]
theorem wrap_sub {k : IntKind} (h : ty64 k = true) (a b : Int) : k.wrap (k.wrap a - k.wrap b) = k.wrap (a - b) := by
 obtain ⟨q, e⟩ := wrap_rep h a;obtain ⟨r, e'⟩ := wrap_rep h b;rw [e, e', show a + q * 18446744073709551616 - (b + r * 18446744073709551616) = a - b + (q - r) * 18446744073709551616 by omega, wrap_shift h]
theorem wrap_mul {k : IntKind} (h : ty64 k = true) (a b : Int) : k.wrap (k.wrap a * k.wrap b) = k.wrap (a * b) := by
 obtain ⟨q, e⟩ := wrap_rep h a;obtain ⟨r, e'⟩ := wrap_rep h b
 have : (a + q * 18446744073709551616) * (b + r * 18446744073709551616) = a * b + (a * r + q * b + q * (18446744073709551616 * r)) * 18446744073709551616 := by
  simp only [Int.add_mul, Int.mul_add];have h1 : a * (r * 18446744073709551616) = a * r * 18446744073709551616 := by rw [Int.mul_assoc]
  have h2 : q * 18446744073709551616 * b = q * b * 18446744073709551616 := by rw [Int.mul_assoc, Int.mul_comm 18446744073709551616 b, ← Int.mul_assoc]
  have h3 : q * 18446744073709551616 * (r * 18446744073709551616) = q * (18446744073709551616 * r) * 18446744073709551616 := by simp only [Int.mul_assoc]
  rw [h1, h2, h3]; omega
 rw [e, e', this, wrap_shift h]
theorem wrap_in {k : IntKind} {n : Int} {e : Lin} (hlo : e.lo ≤ n) (hhi : n ≤ e.hi) (h : inR k e = true) : k.wrap n = n := by
 cases k <;> simp only [inR, ltI_eq, Bool.and_eq_true, Bool.not_eq_true', decide_eq_false_iff_not, decide_eq_true_eq, Bool.false_eq_true] at h
 ·refine zI ?_ ?_
  ·have : Int.negSucc (lim63 - 1) = -9223372036854775808 := rfl;omega
  ·have : Int.ofNat lim63 = 9223372036854775808 := rfl;omega
 ·have : Int.ofNat lim64 = 18446744073709551616 := rfl;rw [wrap_u];omega
theorem inR_wrap {env : Nat → Int} {k : IntKind} {e : Lin} (he : e.ok env) (h : inR k e = true) : k.wrap (e.eval env) = e.eval env :=
 wrap_in (Lin.bounds he).1 (Lin.bounds he).2 h
theorem wrap_le {k : IntKind} {r c : Int} (h0 : 0 ≤ r) (h1 : r ≤ c) (h : inR k (Lin.num c) = true) : k.wrap r = r := by
 have e1 : (Lin.num c).lo = c := by simp [Lin.num, Lin.lo, loTs]
 have e2 : (Lin.num c).hi = c := by simp [Lin.num, Lin.hi, hiTs]
 cases k <;> simp only [inR, e1, e2, ltI_eq, Bool.and_eq_true, Bool.not_eq_true', decide_eq_false_iff_not, decide_eq_true_eq, Bool.false_eq_true] at h
 ·refine zI (by omega) ?_;have : Int.ofNat lim63 = 9223372036854775808 := rfl;omega
 ·have : Int.ofNat lim64 = 18446744073709551616 := rfl;rw [wrap_u];omega
theorem inF_ok {env : Nat → Int} {e : Lin} (he : e.ok env) (h : inF e = true) : FOk (e.eval env) := by
 have hb := Lin.bounds he;unfold inF at h;simp only [ltI_eq, Bool.and_eq_true, Bool.not_eq_true', decide_eq_false_iff_not] at h;have h1 : Int.negSucc (limF - 1) = -4503599627370496 := rfl;have h2 : Int.ofNat limF = 4503599627370496 := rfl;unfold FOk;omega
section
variable {P : Program} {ι : Inj} {w : World}
theorem asL_some {x : Option V} {u : Value} {k : IntKind} {e : Lin} (hv : ∀ z, x = some z → VR ι z u) (h : asL x = some (k, e)) : ty64 k = true ∧ e.ok ι.env ∧ u = .int k (k.wrap (e.eval ι.env)) := by
 unfold asL at h;split at h
 ·rename_i k' n;simp only [Bool.cond_eq_ite] at h;split at h
  ·rename_i hg;simp only [Bool.and_eq_true] at hg;cases h;have hu : u = .int k n := hv _ rfl;have := inR_wrap (env := ι.env) (Lin.ok_num n) hg.2;rw [Lin.eval_num] at this;exact ⟨hg.1, Lin.ok_num n, by rw [Lin.eval_num, this]; exact hu⟩
  ·cases h
 ·rename_i k' e';simp only [Bool.cond_eq_ite] at h;split at h
  ·rename_i hg;cases h;obtain ⟨h1, h2⟩ := hv _ rfl;exact ⟨hg, h1, h2⟩
  ·cases h
 ·cases h
theorem asFN_some {b : Nat} {e : Lin} (h : asFN b = some e) : e.ok ι.env ∧ FOk (e.eval ι.env) ∧ b = fO (e.eval ι.env) := by
 unfold asFN at h;split at h
 ·rename_i n hn;simp only [Bool.cond_eq_ite] at h;split at h
  ·rename_i hg;simp only [Bool.and_eq_true] at hg;cases h;refine ⟨Lin.ok_num n, inF_ok (Lin.ok_num n) hg.1, ?_⟩;rw [Lin.eval_num];exact (Nat.eq_of_beq_eq_true hg.2).symm
  ·cases h
 ·cases h
theorem asF_some {x : Option V} {u : Value} {e : Lin} (hv : ∀ z, x = some z → VR ι z u) (h : asF x = some e) : e.ok ι.env ∧ FOk (e.eval ι.env) ∧ u = .float .f64 (fO (e.eval ι.env)) := by
 unfold asF at h;split at h
 ·rename_i b;have hu : u = .float .f64 b := hv _ rfl;obtain ⟨h1, h2, h3⟩ := asFN_some (ι := ι) h;exact ⟨h1, h2, by rw [hu, h3]⟩
 ·cases h;exact hv _ rfl
 ·cases h
theorem asC_some {z : Option V} {u : Value} {x y : Lin} (hv : ∀ q, z = some q → VR ι q u) (h : asC z = some (x, y)) : (x.ok ι.env ∧ y.ok ι.env) ∧ (FOk (x.eval ι.env) ∧ FOk (y.eval ι.env)) ∧ u = .complex .f64 (fO (x.eval ι.env)) (fO (y.eval ι.env)) := by
 unfold asC at h;split at h
 ·rename_i re im;have hu : u = .complex .f64 re im := hv _ rfl;split at h
  ·rename_i a b ha hb;cases h;obtain ⟨h1, h2, h3⟩ := asFN_some (ι := ι) ha;obtain ⟨g1, g2, g3⟩ := asFN_some (ι := ι) hb;exact ⟨⟨h1, g1⟩, ⟨h2, g2⟩, by rw [hu, h3, g3]⟩
  ·cases h
 ·cases h;exact hv _ rfl
 ·cases h
theorem mkY_rel {k : IntKind} {e : Lin} (he : e.ok ι.env) : VR ι (mkY k e) (.int k (k.wrap (e.eval ι.env))) := by
 unfold mkY;split
 ·rename_i c hc;rw [Lin.isNum_some (env := ι.env) hc]; rfl
 ·exact ⟨he, rfl⟩
end
end Go.Ai
