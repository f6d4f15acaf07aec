/- What the printed functions of packages fixed, line come to, in plain words. -/
import Derived.Test.YteecoblmjjmbhaaPAx0
import Derived.Test.YteecoblmjjmbhaaPAx2
import Derived.Test.YteecoblmjjmbhaaPAx4
namespace Go.Proofs.Yteecoblmjjmbhaa.PA
open Go.RowKit Go.Proofs.YteecoblmjjmbhaaW.PrintWords Go.Proofs.YteecoblmjjmbhaaW.PrintLast Go.Proofs.YteecoblmjjmbhaaW.PrintMore

/-- Brought within. -/
def sat (n : Int) : Int := if n < -1099511627776 then -1099511627776 else if 1099511627776 < n then 1099511627776 else n
/-- A coordinate from 0 on. -/
def pl (n : Int) : Bool := decide (0 ≤ n ∧ n ≤ 1099511627776)
theorem pl_iff {n : Int} : pl n = true ↔ 0 ≤ n ∧ n ≤ 1099511627776 := by simp [pl]
theorem pl_not {n : Int} : pl n = false ↔ ¬ (0 ≤ n ∧ n ≤ 1099511627776) := by simp [pl]

theorem w64 {n : Int} (h : -9223372036854775808 ≤ n) (h' : n ≤ 9223372036854775807) : wrap64 n = n := by unfold wrap64; omega
theorem w_nat {n : Nat} (h : n ≤ 9223372036854775807) : wrap64 (n : Int) = (n : Int) := w64 (by omega) (by omega)
theorem w_nat1 {n : Nat} (h : n < 9223372036854775807) : wrap64 ((n : Int) + 1) = ((n + 1 : Nat) : Int) := by
  rw [w64 (by omega) (by omega)]
  omega
theorem w_add {n m : Nat} (h : n + m ≤ 9223372036854775807) : wrap64 ((n : Int) + (m : Int)) = ((n + m : Nat) : Int) := by
  rw [w64 (by omega) (by omega)]
  omega
theorem w_sub {n m : Nat} (h : m ≤ n) (hn : n ≤ 9223372036854775807) : wrap64 ((n : Int) - (m : Int)) = ((n - m : Nat) : Int) := by
  rw [w64 (by omega) (by omega)]
  omega
theorem wf64 {n : Int} (h : (Lit.int .i64 n).wf = true) : -9223372036854775808 ≤ n ∧ n ≤ 9223372036854775807 := by
  have h2 : IntKind.min .i64 ≤ n ∧ n ≤ IntKind.max .i64 := by simpa [Lit.wf] using h
  have e1 : IntKind.min .i64 = -9223372036854775808 := rfl
  have e2 : IntKind.max .i64 = 9223372036854775807 := rfl
  omega
theorem w01 : wrap64 (0 + 1) = 1 := w64 (by omega) (by omega)
theorem w1 : wrap64 1 = 1 := w64 (by omega) (by omega)
theorem w2 : wrap64 2 = 2 := w64 (by omega) (by omega)
theorem rd_nat {l : List Int} {i : Nat} (h : i < l.length) : rd l (i : Int) = l[i] := by simp [rd, List.getD_eq_getElem?_getD, h]
theorem rd_at {l : List Int} {i : Int} (h0 : 0 ≤ i) (h : i < (l.length : Int)) : rd l i = l[i.toNat]'(by omega) := by
  obtain ⟨n, rfl⟩ := Int.eq_ofNat_of_zero_le h0
  exact rd_nat (by omega)
theorem drop_nat {α : Type} {l : List α} {i : Nat} (h : i < l.length) : l.drop i = l[i] :: l.drop (i + 1) := List.drop_eq_getElem_cons h

theorem all_drop {l : List Int} {p : Int → Bool} {i : Nat} (h : i < l.length) : (l.drop i).all p = (p l[i] && (l.drop (i + 1)).all p) := by rw [drop_nat h, List.all_cons]

theorem sat_bd (n : Int) : -1099511627776 ≤ sat n ∧ sat n ≤ 1099511627776 := by
  unfold sat
  split
  · omega
  · split <;> omega
theorem sat_in {n : Int} (h : -1099511627776 ≤ n) (h' : n ≤ 1099511627776) : sat n = n := by unfold sat; rw [if_neg (by omega), if_neg (by omega)]
theorem sat_pos {n : Int} (h : 0 ≤ n) : sat n = min 1099511627776 n := by
  unfold sat
  rw [if_neg (by omega)]
  split <;> omega
theorem fixed_Sat_eq (a : Int) : fixed_Sat.f a = some (sat a) := by
  unfold fixed_Sat.f mn mx sat
  congr 1
  repeat' split
  all_goals omega
theorem plus1 (a x : Int) {k : Nat} (hk : 2 ≤ k) : fixed_Plus.f k a [x] = some (sat (wrap64 (a + x))) := by
  obtain ⟨m, rfl⟩ : ∃ m, k = m + 2 := ⟨k - 2, by omega⟩
  simp [fixed_Plus.f, fixed_Plus.l0, fixed_Sat_eq, rd, w1]
theorem plus2 (a x y : Int) {k : Nat} (hk : 3 ≤ k) : fixed_Plus.f k a [x, y] = some (sat (wrap64 (sat (wrap64 (a + x)) + y))) := by
  obtain ⟨m, rfl⟩ : ∃ m, k = m + 3 := ⟨k - 3, by omega⟩
  simp [fixed_Plus.f, fixed_Plus.l0, fixed_Sat_eq, rd, w1, w2]
theorem plain_eq (a : Int) : line_Plain.f a = some (pl a) := by
  unfold line_Plain.f pl
  by_cases h : 0 ≤ a
  · rw [if_pos h]; simp [h]
  · rw [if_neg h]; simp [h]
theorem len_next {l : List Int} {i : Nat} (h : i < l.length) (hl : l.length ≤ 9223372036854775807) : wrap64 ((i : Int) + 1) = ((i + 1 : Nat) : Int) := by
  rw [w64 (by omega) (by omega)]
  omega

theorem sizes_l1 (l more : List Int) (most : Int) (hl : more.length ≤ 9223372036854775807) : ∀ (d i k : Nat), more.length - i = d → i ≤ more.length → d < k → line_Sizes.l1 k l most more (more.length : Int) (i : Int) = some ((more.drop i).all pl && decide ((l.length : Int) ≤ most)) := by
  intro d
  induction d with
  | zero =>
    intro i k hd hi hk
    obtain ⟨k, rfl⟩ : ∃ m, k = m + 1 := ⟨k - 1, by omega⟩
    simp only [line_Sizes.l1]
    rw [if_neg (by omega), List.drop_of_length_le (by omega)]
    simp
  | succ d ih =>
    intro i k hd hi hk
    obtain ⟨k, rfl⟩ : ∃ m, k = m + 1 := ⟨k - 1, by omega⟩
    have hlt : i < more.length := by omega
    simp only [line_Sizes.l1]
    rw [if_pos (by omega), if_pos (by omega), if_pos (by omega), plain_eq, rd_nat hlt, all_drop hlt]
    simp only [Option.bind_some]
    cases h : pl more[i] with
    | true =>
      rw [if_pos rfl, len_next hlt hl, ih (i + 1) k (by omega) (by omega) (by omega), Bool.true_and]
    | false => rw [if_neg (by simp)]; simp

theorem sizes_l0 (l more : List Int) (most : Int) (hl : l.length ≤ 9223372036854775807) (hm : more.length ≤ 9223372036854775807) : ∀ (d i k : Nat), l.length - i = d → i ≤ l.length → d + more.length + 2 ≤ k →
    line_Sizes.l0 k l most more l (l.length : Int) (i : Int) = some ((l.drop i).all pl && (more.all pl && decide ((l.length : Int) ≤ most))) := by
  intro d
  induction d with
  | zero =>
    intro i k hd hi hk
    obtain ⟨k, rfl⟩ : ∃ m, k = m + 1 := ⟨k - 1, by omega⟩
    simp only [line_Sizes.l0]
    rw [if_neg (by omega), List.drop_of_length_le (by omega)]
    have := sizes_l1 l more most hm more.length 0 k (by omega) (by omega) (by omega)
    simp only [List.drop_zero, Int.natCast_zero] at this
    rw [this]
    simp
  | succ d ih =>
    intro i k hd hi hk
    obtain ⟨k, rfl⟩ : ∃ m, k = m + 1 := ⟨k - 1, by omega⟩
    have hlt : i < l.length := by omega
    simp only [line_Sizes.l0]
    rw [if_pos (by omega), if_pos (by omega), if_pos (by omega), plain_eq, rd_nat hlt, all_drop hlt]
    simp only [Option.bind_some]
    cases h : pl l[i] with
    | true =>
      rw [if_pos rfl, len_next hlt hl, ih (i + 1) k (by omega) (by omega) (by omega), Bool.true_and]
    | false => rw [if_neg (by simp)]; simp

/-- May these sizes be? -/
def okS (l more : List Int) (most : Int) : Bool := l.all pl && (more.all pl && decide ((l.length : Int) ≤ most))
theorem sizes_eq (l more : List Int) (most : Int) (hl : l.length ≤ 9223372036854775807) (hm : more.length ≤ 9223372036854775807) {k : Nat} (hk : l.length + more.length + 2 ≤ k) : line_Sizes.f k l most more = some (okS l more most) := by
  have := sizes_l0 l more most hl hm l.length 0 k (by omega) (by omega) (by omega)
  simp only [List.drop_zero, Int.natCast_zero] at this
  exact this

/-- Together, with a gap ahead of each. -/
def more (gap : Int) : Int → List Int → Int
  | n, [] => n
  | n, s :: r => more gap (sat (wrap64 (sat (wrap64 (n + gap)) + s))) r
/-- Together, with gaps between. -/
def lenS (gap : Int) : List Int → Int
  | [] => 0
  | s :: r => more gap (sat (wrap64 (0 + s))) r

theorem sum_l0 (l : List Int) (gap : Int) (hl : l.length ≤ 9223372036854775807) : ∀ (d i k : Nat) (n : Int), l.length - i = d → i ≤ l.length → 0 < i → d + 3 ≤ k → line_Sum.l0 k l gap n (i : Int) = some (more gap n (l.drop i)) := by
  intro d
  induction d with
  | zero =>
    intro i k n hd hi hi0 hk
    obtain ⟨k, rfl⟩ : ∃ m, k = m + 1 := ⟨k - 1, by omega⟩
    simp only [line_Sum.l0]
    rw [if_neg (by omega), List.drop_of_length_le (by omega)]
    rfl
  | succ d ih =>
    intro i k n hd hi hi0 hk
    obtain ⟨k, rfl⟩ : ∃ m, k = m + 1 := ⟨k - 1, by omega⟩
    have hlt : i < l.length := by omega
    simp only [line_Sum.l0]
    rw [if_pos (by omega), if_pos (by omega), plus1 _ _ (by omega)]
    simp only [Option.bind_some]
    rw [if_pos (by omega), plus1 _ _ (by omega)]
    simp only [Option.bind_some]
    rw [len_next hlt hl, ih (i + 1) k _ (by omega) (by omega) (by omega) (by omega), rd_nat hlt, drop_nat hlt]
    rfl
theorem sum_eq (l : List Int) (gap : Int) (hl : l.length ≤ 9223372036854775807) {k : Nat} (hk : l.length + 4 ≤ k) : line_Sum.f k l gap = some (lenS gap l) := by
  obtain ⟨k, rfl⟩ : ∃ m, k = m + 1 := ⟨k - 1, by omega⟩
  simp only [line_Sum.f, line_Sum.l0]
  cases l with
  | nil => simp [lenS]
  | cons s r =>
    rw [if_pos (by simp), if_neg (by omega), if_pos (by omega), plus1 _ _ (by simp at hk; omega)]
    simp only [Option.bind_some, w01]
    have := sum_l0 (s :: r) gap hl r.length 1 k (sat (wrap64 (0 + rd (s :: r) 0))) (by simp) (by simp) (by omega) (by simp at hk; omega)
    simp only [Int.natCast_one] at this
    rw [this]
    simp [lenS, rd]

theorem eqNums_l0 (a b : List Int) (hab : a.length = b.length) (hl : a.length ≤ 9223372036854775807) : ∀ (d i k : Nat), a.length - i = d → i ≤ a.length → d < k → arrasref0_EqNumbers.l0 k a b (i : Int) = some (decide (a.drop i = b.drop i)) := by
  intro d
  induction d with
  | zero =>
    intro i k hd hi hk
    obtain ⟨k, rfl⟩ : ∃ m, k = m + 1 := ⟨k - 1, by omega⟩
    simp only [arrasref0_EqNumbers.l0]
    rw [if_neg (by omega), List.drop_of_length_le (by omega), List.drop_of_length_le (by omega)]
    simp
  | succ d ih =>
    intro i k hd hi hk
    obtain ⟨k, rfl⟩ : ∃ m, k = m + 1 := ⟨k - 1, by omega⟩
    have hlt : i < a.length := by omega
    have hlt2 : i < b.length := by omega
    simp only [arrasref0_EqNumbers.l0]
    rw [if_pos (by omega), if_pos (by omega), if_pos (by omega), rd_nat hlt, rd_nat hlt2]
    have e : (a.drop i = b.drop i) ↔ (a[i] = b[i] ∧ a.drop (i + 1) = b.drop (i + 1)) := by rw [drop_nat hlt, drop_nat hlt2, List.cons.injEq]
    by_cases h : a[i] = b[i]
    · rw [if_pos h, len_next hlt hl, ih (i + 1) k (by omega) (by omega) (by omega)]
      simp only [e, h, true_and]
    · rw [if_neg h]
      simp only [e, h, false_and, decide_false]
theorem eqNums_eq (a b : List Int) (hl : a.length ≤ 9223372036854775807) {k : Nat} (hk : a.length < k) : arrasref0_EqNumbers.f k a b = some (decide (a = b)) := by
  unfold arrasref0_EqNumbers.f
  by_cases h : (a.length : Int) = (b.length : Int)
  · rw [if_pos h]
    have := eqNums_l0 a b (by omega) hl a.length 0 k (by omega) (by omega) hk
    simpa using this
  · rw [if_neg h]
    have : a ≠ b := fun e => h (by rw [e])
    simp [this]

end Go.Proofs.Yteecoblmjjmbhaa.PA
