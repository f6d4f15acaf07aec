/- The pure statement of FixedEnds: at both ends sums and products stay within; what is beyond is refused; a clamp without an upper bound lets all go that is not below the lower one. -/
import Derived.Test.YtdilliddflnbnaaTellFixedEnds
import Derived.Test.YtdilliddflnbnaaFixedA
namespace Go.Proofs.Ytdilliddflnbnaa.TFixedEnds
open Go.RowKit Go.Proofs.YtdilliddflnbnaaW.PrintWords Go.Proofs.YtdilliddflnbnaaW.PrintMore Go.Proofs.Ytdilliddflnbnaa.PA

/-- The law, over numbers and lists: all but the last question is a closed computation. -/
theorem pure : Pure := fun l _ => ⟨200, by
  have a1 : fixed_Add.f 200 1099511627776 1 = some (1099511627776, 0) := by kernel_rfl
  have a2 : fixed_Sub.f (-1099511627776) 1 = some (-1099511627776, 0) := by kernel_rfl
  have a3 : fixed_MulDiv.f 200 1099511627776 1099511627776 1 = some (1099511627776, 0) := by kernel_rfl
  have a4 : fixed_MulDiv.f 200 1099511627776 (-1099511627776) 1 = some (-1099511627776, 0) := by kernel_rfl
  have a5 : fixed_MulDiv.f 200 (-1) 1 1099511627776 = some (-1, 0) := by kernel_rfl
  have a6 : fixed_MulDiv.f 200 1099511627776 1099511627776 1099511627776 = some (1099511627776, 0) := by kernel_rfl
  have a7 : fixed_Clamp.f 1099511627776 5 (-1) = some (1099511627776, 0) := by kernel_rfl
  have a8 : fixed_Clamp.f 7 9 3 = some (9, 0) := by kernel_rfl
  have a9 : fixed_Add.f 200 1099511627777 0 = some (0, 1) := by kernel_rfl
  have a10 : fixed_MulDiv.f 200 1 1 0 = some (0, 1) := by kernel_rfl
  have a11 : fixed_Clamp.f 1 2 (-1099511627778) = some (0, 1) := by kernel_rfl
  have num (n : Int) : arraslaw1_num.f n = some n := rfl
  unfold arraslaw1_FixedEnds.f
  rw [a1, a2, a3, a4, a5, a6, a7, a8, a9, a10, a11]
  simp only [Option.bind_some, num]
  have go : ∀ (d i k : Nat), 8 - i = d → i ≤ 8 → 100 + d ≤ k → arraslaw1_FixedEnds.l0 k l 1099511627776 (-1099511627776) 1099511627776 (-1099511627776) (-1) 1099511627776 1099511627776 9 1 1 1 [0, 0, 0, 0, 0, 0, 0, 0] (i : Int) = some true := by
    intro d
    induction d with
    | zero =>
      intro i k hd hi hk
      obtain ⟨k, rfl⟩ : ∃ m, k = m + 1 := ⟨k - 1, by omega⟩
      simp only [arraslaw1_FixedEnds.l0]
      rw [if_neg (by simp; omega)]
      simp only [if_true, num, Option.bind_some]
      rw [if_pos (by omega), fwakes k (by omega)]
      rfl
    | succ d ih =>
      intro i k hd hi hk
      obtain ⟨k, rfl⟩ : ∃ m, k = m + 1 := ⟨k - 1, by omega⟩
      have hnext := ih (i + 1) k (by omega) (by omega) (by omega)
      have hz : rd [0, 0, 0, 0, 0, 0, 0, 0] (i : Int) = 0 := by
        have : i = 0 ∨ i = 1 ∨ i = 2 ∨ i = 3 ∨ i = 4 ∨ i = 5 ∨ i = 6 ∨ i = 7 := by omega
        rcases this with rfl | rfl | rfl | rfl | rfl | rfl | rfl | rfl <;> rfl
      simp only [arraslaw1_FixedEnds.l0]
      rw [if_pos (by simp; omega), if_pos (by omega), hz, if_pos rfl, w_nat1 (by omega)]
      exact hnext
  exact go 8 0 200 rfl (by omega) (by omega)⟩
end Go.Proofs.Ytdilliddflnbnaa.TFixedEnds
