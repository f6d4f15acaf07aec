/- Copies of lists, and lists that are written over. -/
import Derived.Test.YtjjlmmebkemlgaaBasicsS
import Derived.Test.YtjjlmmebkemlgaaPSx0
import Derived.Test.YtjjlmmebkemlgaaPSx1
import Derived.Test.YtjjlmmebkemlgaaPSx8
namespace Go.Proofs.Ytjjlmmebkemlgaa.PS
open Go.RowKit Go.Proofs.YtjjlmmebkemlgaaW.PrintWords Go.Proofs.YtjjlmmebkemlgaaW.PrintLast Go.Proofs.YtjjlmmebkemlgaaW.PrintMore

theorem copy_l0 (l : List Int) (hl : l.length ≤ 17592186044416) : ∀ (d i k : Nat) (acc : List Int), l.length - i = d → i ≤ l.length → acc.length = i → d < k → arrasref0_CopyNumbers.l0 k l acc (i : Int) = some (acc ++ l.drop i) := by
  intro d
  induction d with
  | zero =>
    intro i k acc hd hi ha hk
    obtain ⟨k, rfl⟩ : ∃ m, k = m + 1 := ⟨k - 1, by omega⟩
    simp only [arrasref0_CopyNumbers.l0]
    rw [if_neg (by omega), List.drop_of_length_le (by omega)]
    simp
  | succ d ih =>
    intro i k acc hd hi ha hk
    obtain ⟨k, rfl⟩ : ∃ m, k = m + 1 := ⟨k - 1, by omega⟩
    have hlt : i < l.length := by omega
    simp only [arrasref0_CopyNumbers.l0]
    rw [if_pos (by omega), if_pos (by omega), if_pos (by omega), len_next hlt (by omega), ih (i + 1) k _ (by omega) (by omega) (by simp; omega) (by omega), rd_nat hlt, drop_nat hlt]
    simp
theorem copy_eq (l : List Int) (hl : l.length ≤ 17592186044416) {k : Nat} (hk : l.length < k) : arrasref0_CopyNumbers.f k l = some l := by
  have := copy_l0 l hl l.length 0 k [] (by omega) (by omega) rfl hk
  show arrasref0_CopyNumbers.l0 k l [] 0 = some l
  simpa using this

theorem numbers_l0 (n : Nat) (hn : n ≤ 17592186044415) : ∀ (d i k : Nat) (l : List Int), l.length = n → n - i = d → i ≤ n → d < k → arraslaw0_Numbers.l0 k l (i : Int) = some () := by
  intro d
  induction d with
  | zero =>
    intro i k l hl hd hi hk
    obtain ⟨k, rfl⟩ : ∃ m, k = m + 1 := ⟨k - 1, by omega⟩
    simp only [arraslaw0_Numbers.l0]
    rw [if_neg (by omega), if_pos (by omega)]
  | succ d ih =>
    intro i k l hl hd hi hk
    obtain ⟨k, rfl⟩ : ∃ m, k = m + 1 := ⟨k - 1, by omega⟩
    simp only [arraslaw0_Numbers.l0]
    rw [if_pos (by omega), if_pos (by omega), len_next (l := l) (by omega) (by omega)]
    exact ih (i + 1) k _ (by simp [hl]) (by omega) (by omega) (by omega)
theorem numbers_eq (l : List Int) (hl : l.length ≤ 17592186044415) {k : Nat} (hk : l.length < k) : arraslaw0_Numbers.f k l = some () := numbers_l0 l.length hl l.length 0 k l rfl (by omega) (by omega) hk

end Go.Proofs.Ytjjlmmebkemlgaa.PS
