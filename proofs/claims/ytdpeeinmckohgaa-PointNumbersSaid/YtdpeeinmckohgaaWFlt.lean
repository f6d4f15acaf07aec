/- Floats and complex numbers in the printed walks: their kinds, and what each operation on them gives. -/
import Derived.Test.YtdpeeinmckohgaaWWords
import Derived.Test.YtdpeeinmckohgaaWFoot
import Derived.Laws.Externs
namespace Go.Proofs.YtdpeeinmckohgaaW.PrintWords
open Go
/-- A complex number: its two halves' bits. -/
abbrev C128 := Nat × Nat
def encC (z : C128) : Value := .complex .f64 z.1 z.2
namespace Kd
def f64 : Kd Nat := scalar (Value.float .f64) (fun _ => rfl)
def c128 : Kd C128 := scalar encC (fun _ => rfl)
variable {w : World} {A : Option Addr} {n : Nat}
theorem at_f64 {xs : List Nat} (h : Kd.f64.C w A n xs) (i : Int) (h0 : 0 ≤ i) (h1 : i < n) : ∃ ad, A = some ad ∧ w.cell? (ad.add i.toNat) = some (.float .f64 (rdOf 0 xs i)) :=
  ReadsOf.at_ (reads_of_C (enc := Value.float .f64) (d := 0) (h1 := fun _ => rfl) h) i h0 h1
theorem at_c128 {xs : List C128} (h : Kd.c128.C w A n xs) (i : Int) (h0 : 0 ≤ i) (h1 : i < n) : ∃ ad, A = some ad ∧ w.cell? (ad.add i.toNat) = some (.complex .f64 (rdOf (0, 0) xs i).1 (rdOf (0, 0) xs i).2) :=
  ReadsOf.at_ (reads_of_C (enc := encC) (d := (0, 0)) (h1 := fun _ => rfl) h) i h0 h1
end Kd

def feq (a b : Nat) : Bool := FloatKind.f64.format.order a b == some .eq
def flt (a b : Nat) : Bool := FloatKind.f64.format.order a b == some .lt
def fle (a b : Nat) : Bool := FloatKind.f64.format.order a b == some .lt || FloatKind.f64.format.order a b == some .eq
def fgt (a b : Nat) : Bool := FloatKind.f64.format.order a b == some .gt
def fge (a b : Nat) : Bool := FloatKind.f64.format.order a b == some .gt || FloatKind.f64.format.order a b == some .eq
/-- 'float64(n)'. -/
def fOf (n : Int) : Nat := FloatKind.f64.nearest n
/-- Is there an 'int(x)', and which. -/
def fIs (b : Nat) : Bool := match (FloatKind.f64.decode b).toInt .zero with
  | some n => decide (IntKind.i64.min ≤ n ∧ n ≤ IntKind.i64.max)
  | none => false
def fInt (b : Nat) : Int := ((FloatKind.f64.decode b).toInt .zero).getD 0
/-- Is a sum a number, and which. -/
def fAddIs (a b : Nat) : Bool := (FloatKind.f64.format.add a b).isSome
def fAdd (a b : Nat) : Nat := (FloatKind.f64.format.add a b).getD 0
section
variable {P : Program} {w : World}
theorem fl_eql (t : TypeId) (a b : Nat) : binOp .eql t (.float .f64 a) (.float .f64 b) = pure (.bool (feq a b)) := by simp [binOp, Op.floatCmp, feq]
theorem fl_neq (t : TypeId) (a b : Nat) : binOp .neq t (.float .f64 a) (.float .f64 b) = pure (.bool (!feq a b)) := by simp [binOp, Op.floatCmp, feq, bne]
theorem fl_lss (t : TypeId) (a b : Nat) : binOp .lss t (.float .f64 a) (.float .f64 b) = pure (.bool (flt a b)) := by simp [binOp, Op.floatCmp, flt]
theorem fl_leq (t : TypeId) (a b : Nat) : binOp .leq t (.float .f64 a) (.float .f64 b) = pure (.bool (fle a b)) := by simp [binOp, Op.floatCmp, fle]
theorem fl_gtr (t : TypeId) (a b : Nat) : binOp .gtr t (.float .f64 a) (.float .f64 b) = pure (.bool (fgt a b)) := by simp [binOp, Op.floatCmp, fgt]
theorem fl_geq (t : TypeId) (a b : Nat) : binOp .geq t (.float .f64 a) (.float .f64 b) = pure (.bool (fge a b)) := by simp [binOp, Op.floatCmp, fge]
theorem fl_add (t : TypeId) (a b : Nat) (h : fAddIs a b = true) : (binOp .add t (.float .f64 a) (.float .f64 b)).run P w = .ok (.float .f64 (fAdd a b)) w := by
  unfold fAddIs at h
  obtain ⟨r, hr⟩ := Option.isSome_iff_exists.1 h
  have hr' : Ieee.Format.add FloatKind.f64.format a b = some r := hr
  simp [binOp, Op.floatArith, hr', fAdd]
theorem fl_of (src dst : TypeId) (q : IntKind) (n : Int) (hs : (P.underlying src).isSome = true) (hd : P.underlying dst = some (.float .f64)) : (convert src dst (.int q n)).run P w = .ok (.float .f64 (fOf n)) w := by
  obtain ⟨s, hs'⟩ := Option.isSome_iff_exists.1 hs
  cases s <;> simp [convert, run_underlying hs', run_underlying hd, Conv.intToFloat, fOf]
theorem fl_int (src dst : TypeId) (b : Nat) (hs : (P.underlying src).isSome = true) (hd : P.underlying dst = some (.int .i64)) (h : fIs b = true) : (convert src dst (.float .f64 b)).run P w = .ok (.int .i64 (fInt b)) w := by
  obtain ⟨u, hs'⟩ := Option.isSome_iff_exists.1 hs
  unfold fIs at h
  split at h
  · rename_i m he
    have hb := of_decide_eq_true h
    have hf : fInt b = m := by unfold fInt; rw [he]; rfl
    rw [hf]
    have hr : (Conv.floatToInt .f64 b .i64).run P w = .ok (.int .i64 m) w := by
      unfold Conv.floatToInt
      rw [he]
      simp only
      rw [if_pos hb]
      rfl
    cases u <;> simp [convert, run_underlying hs', run_underlying hd, hr]
  · cases h
theorem cx_mk (ts : Array TypeId) (t : TypeId) (a b : Nat) : (Builtin.complex_ ts t #[.float .f64 a, .float .f64 b]).run P w = .ok (.complex .f64 a b) w := rfl
theorem cx_real (ts : Array TypeId) (t : TypeId) (a b : Nat) : (Builtin.real_ ts t #[.complex .f64 a b]).run P w = .ok (.float .f64 a) w := rfl
theorem cx_imag (ts : Array TypeId) (t : TypeId) (a b : Nat) : (Builtin.imag_ ts t #[.complex .f64 a b]).run P w = .ok (.float .f64 b) w := rfl
theorem cx_eql (t : TypeId) (a b c d : Nat) : (binOp .eql t (.complex .f64 a b) (.complex .f64 c d)).run P w = .ok (.bool (feq a c && feq b d)) w := by
  simp [binOp, Op.complexOp, Op.Complex.cmp, Op.floatCmp, asBool, feq]
theorem cx_neq (t : TypeId) (a b c d : Nat) : (binOp .neq t (.complex .f64 a b) (.complex .f64 c d)).run P w = .ok (.bool (!(feq a c && feq b d))) w := by
  simp [binOp, Op.complexOp, Op.Complex.cmp, Op.floatCmp, asBool, feq]
theorem cx_add (t : TypeId) (a b c d : Nat) (h1 : fAddIs a c = true) (h2 : fAddIs b d = true) : (binOp .add t (.complex .f64 a b) (.complex .f64 c d)).run P w = .ok (.complex .f64 (fAdd a c) (fAdd b d)) w := by
  unfold fAddIs at h1 h2
  obtain ⟨r, hr⟩ := Option.isSome_iff_exists.1 h1
  obtain ⟨q, hq⟩ := Option.isSome_iff_exists.1 h2
  have hr' : Ieee.Format.add FloatKind.f64.format a c = some r := hr
  have hq' : Ieee.Format.add FloatKind.f64.format b d = some q := hq
  simp [binOp, Op.complexOp, Op.Complex.arith, Op.floatArith, hr', hq', fAdd]
end
end Go.Proofs.YtdpeeinmckohgaaW.PrintWords
