/- What the printed functions of packages fixed, line come to, in plain words. -/
import Derived.Test.YtdilliddflnbnaaPBx1
import Derived.Test.YtdilliddflnbnaaPBx3
namespace Go.Proofs.Ytdilliddflnbnaa.PB
open Go.RowKit Go.Proofs.YtdilliddflnbnaaW.PrintWords Go.Proofs.YtdilliddflnbnaaW.PrintLast Go.Proofs.YtdilliddflnbnaaW.PrintMore

/-- Brought within. -/
def sat (n : Int) : Int := if n < -1099511627776 then -1099511627776 else if 1099511627776 < n then 1099511627776 else n
/-- A coordinate from 0 on. -/
def pl (n : Int) : Bool := decide (0 ≤ n ∧ n ≤ 1099511627776)
theorem pl_iff {n : Int} : pl n = true ↔ 0 ≤ n ∧ n ≤ 1099511627776 := by simp [pl]
theorem pl_not {n : Int} : pl n = false ↔ ¬ (0 ≤ n ∧ n ≤ 1099511627776) := by simp [pl]

theorem w64 {n : Int} (h : -9223372036854775808 ≤ n) (h' : n ≤ 9223372036854775807) : wrap64 n = n := by unfold wrap64; omega
theorem w_nat {n : Nat} (h : n ≤ 9223372036854775807) : wrap64 (n : Int) = (n : Int) := w64 (by omega) (by omega)
theorem w_nat1 {n : Nat} (h : n < 9223372036854775807) : wrap64 ((n : Int) + 1) = ((n + 1 : Nat) : Int) := by
  rw [w64 (by omega) (by omega)]
  omega
theorem w_add {n m : Nat} (h : n + m ≤ 9223372036854775807) : wrap64 ((n : Int) + (m : Int)) = ((n + m : Nat) : Int) := by
  rw [w64 (by omega) (by omega)]
  omega
theorem w_sub {n m : Nat} (h : m ≤ n) (hn : n ≤ 9223372036854775807) : wrap64 ((n : Int) - (m : Int)) = ((n - m : Nat) : Int) := by
  rw [w64 (by omega) (by omega)]
  omega
theorem wf64 {n : Int} (h : (Lit.int .i64 n).wf = true) : -9223372036854775808 ≤ n ∧ n ≤ 9223372036854775807 := by
  have h2 : IntKind.min .i64 ≤ n ∧ n ≤ IntKind.max .i64 := by simpa [Lit.wf] using h
  have e1 : IntKind.min .i64 = -9223372036854775808 := rfl
  have e2 : IntKind.max .i64 = 9223372036854775807 := rfl
  omega
theorem w01 : wrap64 (0 + 1) = 1 := w64 (by omega) (by omega)
theorem w1 : wrap64 1 = 1 := w64 (by omega) (by omega)
theorem w2 : wrap64 2 = 2 := w64 (by omega) (by omega)
theorem rd_nat {l : List Int} {i : Nat} (h : i < l.length) : rd l (i : Int) = l[i] := by simp [rd, List.getD_eq_getElem?_getD, h]
theorem rd_at {l : List Int} {i : Int} (h0 : 0 ≤ i) (h : i < (l.length : Int)) : rd l i = l[i.toNat]'(by omega) := by
  obtain ⟨n, rfl⟩ := Int.eq_ofNat_of_zero_le h0
  exact rd_nat (by omega)
theorem drop_nat {α : Type} {l : List α} {i : Nat} (h : i < l.length) : l.drop i = l[i] :: l.drop (i + 1) := List.drop_eq_getElem_cons h

theorem all_drop {l : List Int} {p : Int → Bool} {i : Nat} (h : i < l.length) : (l.drop i).all p = (p l[i] && (l.drop (i + 1)).all p) := by rw [drop_nat h, List.all_cons]

theorem sat_bd (n : Int) : -1099511627776 ≤ sat n ∧ sat n ≤ 1099511627776 := by
  unfold sat
  split
  · omega
  · split <;> omega
theorem sat_in {n : Int} (h : -1099511627776 ≤ n) (h' : n ≤ 1099511627776) : sat n = n := by unfold sat; rw [if_neg (by omega), if_neg (by omega)]
theorem sat_pos {n : Int} (h : 0 ≤ n) : sat n = min 1099511627776 n := by
  unfold sat
  rw [if_neg (by omega)]
  split <;> omega
theorem fixed_Sat_eq (a : Int) : fixed_Sat.f a = some (sat a) := by
  unfold fixed_Sat.f mn mx sat
  congr 1
  repeat' split
  all_goals omega
theorem plus1 (a x : Int) {k : Nat} (hk : 2 ≤ k) : fixed_Plus.f k a [x] = some (sat (wrap64 (a + x))) := by
  obtain ⟨m, rfl⟩ : ∃ m, k = m + 2 := ⟨k - 2, by omega⟩
  simp [fixed_Plus.f, fixed_Plus.l0, fixed_Sat_eq, rd, w1]
theorem plus2 (a x y : Int) {k : Nat} (hk : 3 ≤ k) : fixed_Plus.f k a [x, y] = some (sat (wrap64 (sat (wrap64 (a + x)) + y))) := by
  obtain ⟨m, rfl⟩ : ∃ m, k = m + 3 := ⟨k - 3, by omega⟩
  simp [fixed_Plus.f, fixed_Plus.l0, fixed_Sat_eq, rd, w1, w2]
end Go.Proofs.Ytdilliddflnbnaa.PB
