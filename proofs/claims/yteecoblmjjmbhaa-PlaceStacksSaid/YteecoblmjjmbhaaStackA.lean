/- Where each one begins, one behind the other: what place.Stack and the reference's come to. -/
import Derived.Test.YteecoblmjjmbhaaPlaceA
import Derived.Test.YteecoblmjjmbhaaRefsA
import Derived.Test.YteecoblmjjmbhaaPAx0
import Derived.Test.YteecoblmjjmbhaaPAx5
namespace Go.Proofs.Yteecoblmjjmbhaa.PA
open Go.RowKit Go.Proofs.YteecoblmjjmbhaaW.PrintWords

theorem stack_eq (l : List Int) (gap : Int) (hl : l.length ≤ 9223372036854775807) {k : Nat} (hk : l.length + 10 ≤ k) : place_Stack.f k l gap = some (if okS l [gap] 1000 = true then (rowS (nx1 gap) 0 l, 0) else ([], 1)) := by
  simp only [place_Stack.f]
  rw [sizes_eq l [gap] 1000 hl (by simp) (by simp; omega)]
  simp only [Option.bind_some]
  by_cases c : okS l [gap] 1000 = true
  · obtain ⟨_, _, h3⟩ := okS_iff.1 c
    rw [if_pos c, if_pos c]
    simp only [place_Pile.f]
    rw [row1_eq l 0 gap (by omega) (by omega)]
    rfl
  · rw [if_neg c, if_neg c]
theorem refStack_l0 (l : List Int) (gap : Int) (hl : l.length ≤ 1048576) : ∀ (d i k : Nat) (a : Int) (acc : List Int), l.length - i = d → i ≤ l.length → d < k → acc.length = i →
    arrasref19_Stack.l0 k l gap acc a (i : Int) = some (acc ++ rowS (nx1 gap) a (l.drop i)) := by
  intro d
  induction d with
  | zero =>
    intro i k a acc hd hi hk ha
    obtain ⟨k, rfl⟩ : ∃ m, k = m + 1 := ⟨k - 1, by omega⟩
    simp only [arrasref19_Stack.l0]
    rw [if_neg (by omega), List.drop_of_length_le (by omega)]
    simp [rowS]
  | succ d ih =>
    intro i k a acc hd hi hk ha
    obtain ⟨k, rfl⟩ : ∃ m, k = m + 1 := ⟨k - 1, by omega⟩
    have hlt : i < l.length := by omega
    simp only [arrasref19_Stack.l0]
    rw [if_pos (by omega), if_pos (by omega), if_pos (by omega), rd_nat hlt, ref_Add_eq]
    simp only [Option.bind_some, ref_Add_eq]
    rw [len_next hlt (by omega), ih (i + 1) k _ _ (by omega) (by omega) (by omega) (by simp; omega), drop_nat hlt]
    simp [rowS, nx1]
theorem refStack_eq (l : List Int) (gap : Int) (hl : l.length ≤ 1048576) {k : Nat} (hk : l.length < k) : arrasref19_Stack.f k l gap = some (rowS (nx1 gap) 0 l) := by
  have := refStack_l0 l gap hl l.length 0 k 0 [] (by omega) (by omega) (by omega) rfl
  simp only [List.nil_append, List.drop_zero, Int.natCast_zero] at this
  exact this
end Go.Proofs.Yteecoblmjjmbhaa.PA
