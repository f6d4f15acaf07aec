/- Small facts of whole numbers and lists. -/
import Derived.Test.YtjjlmmebkemlgaaPSx7
namespace Go.Proofs.Ytjjlmmebkemlgaa.PS
open Go.RowKit Go.Proofs.YtjjlmmebkemlgaaW.PrintWords Go.Proofs.YtjjlmmebkemlgaaW.PrintLast Go.Proofs.YtjjlmmebkemlgaaW.PrintMore

theorem w64 {n : Int} (h : -9223372036854775808 ≤ n) (h' : n ≤ 9223372036854775807) : wrap64 n = n := by unfold wrap64; omega
theorem w_nat {n : Nat} (h : n ≤ 9223372036854775807) : wrap64 (n : Int) = (n : Int) := w64 (by omega) (by omega)
theorem w_nat1 {n : Nat} (h : n < 9223372036854775807) : wrap64 ((n : Int) + 1) = ((n + 1 : Nat) : Int) := by
  rw [w64 (by omega) (by omega)]
  omega
theorem w_add {n m : Nat} (h : n + m ≤ 9223372036854775807) : wrap64 ((n : Int) + (m : Int)) = ((n + m : Nat) : Int) := by
  rw [w64 (by omega) (by omega)]
  omega
theorem w_sub {n m : Nat} (h : m ≤ n) (hn : n ≤ 9223372036854775807) : wrap64 ((n : Int) - (m : Int)) = ((n - m : Nat) : Int) := by
  rw [w64 (by omega) (by omega)]
  omega
theorem wf64 {n : Int} (h : (Lit.int .i64 n).wf = true) : -9223372036854775808 ≤ n ∧ n ≤ 9223372036854775807 := by
  have h2 : IntKind.min .i64 ≤ n ∧ n ≤ IntKind.max .i64 := by simpa [Lit.wf] using h
  have e1 : IntKind.min .i64 = -9223372036854775808 := rfl
  have e2 : IntKind.max .i64 = 9223372036854775807 := rfl
  omega
theorem w01 : wrap64 (0 + 1) = 1 := w64 (by omega) (by omega)
theorem w1 : wrap64 1 = 1 := w64 (by omega) (by omega)
theorem w2 : wrap64 2 = 2 := w64 (by omega) (by omega)
theorem rd_nat {l : List Int} {i : Nat} (h : i < l.length) : rd l (i : Int) = l[i] := by simp [rd, List.getD_eq_getElem?_getD, h]
theorem rd_at {l : List Int} {i : Int} (h0 : 0 ≤ i) (h : i < (l.length : Int)) : rd l i = l[i.toNat]'(by omega) := by
  obtain ⟨n, rfl⟩ := Int.eq_ofNat_of_zero_le h0
  exact rd_nat (by omega)
theorem drop_nat {α : Type} {l : List α} {i : Nat} (h : i < l.length) : l.drop i = l[i] :: l.drop (i + 1) := List.drop_eq_getElem_cons h
theorem all_drop {l : List Int} {p : Int → Bool} {i : Nat} (h : i < l.length) : (l.drop i).all p = (p l[i] && (l.drop (i + 1)).all p) := by rw [drop_nat h, List.all_cons]
theorem len_next {l : List Int} {i : Nat} (h : i < l.length) (hl : l.length ≤ 9223372036854775807) : wrap64 ((i : Int) + 1) = ((i + 1 : Nat) : Int) := by
  rw [w64 (by omega) (by omega)]
  omega
theorem eqNums_l0 (a b : List Int) (hab : a.length = b.length) (hl : a.length ≤ 9223372036854775807) : ∀ (d i k : Nat), a.length - i = d → i ≤ a.length → d < k → arrasref0_EqNumbers.l0 k a b (i : Int) = some (decide (a.drop i = b.drop i)) := by
  intro d
  induction d with
  | zero =>
    intro i k hd hi hk
    obtain ⟨k, rfl⟩ : ∃ m, k = m + 1 := ⟨k - 1, by omega⟩
    simp only [arrasref0_EqNumbers.l0]
    rw [if_neg (by omega), List.drop_of_length_le (by omega), List.drop_of_length_le (by omega)]
    simp
  | succ d ih =>
    intro i k hd hi hk
    obtain ⟨k, rfl⟩ : ∃ m, k = m + 1 := ⟨k - 1, by omega⟩
    have hlt : i < a.length := by omega
    have hlt2 : i < b.length := by omega
    simp only [arrasref0_EqNumbers.l0]
    rw [if_pos (by omega), if_pos (by omega), if_pos (by omega), rd_nat hlt, rd_nat hlt2]
    have e : (a.drop i = b.drop i) ↔ (a[i] = b[i] ∧ a.drop (i + 1) = b.drop (i + 1)) := by rw [drop_nat hlt, drop_nat hlt2, List.cons.injEq]
    by_cases h : a[i] = b[i]
    · rw [if_pos h, len_next hlt hl, ih (i + 1) k (by omega) (by omega) (by omega)]
      simp only [e, h, true_and]
    · rw [if_neg h]
      simp only [e, h, false_and, decide_false]
theorem eqNums_eq (a b : List Int) (hl : a.length ≤ 9223372036854775807) {k : Nat} (hk : a.length < k) : arrasref0_EqNumbers.f k a b = some (decide (a = b)) := by
  unfold arrasref0_EqNumbers.f
  by_cases h : (a.length : Int) = (b.length : Int)
  · rw [if_pos h]
    have := eqNums_l0 a b (by omega) hl a.length 0 k (by omega) (by omega) hk
    simpa using this
  · rw [if_neg h]
    have : a ≠ b := fun e => h (by rw [e])
    simp [this]
end Go.Proofs.Ytjjlmmebkemlgaa.PS
