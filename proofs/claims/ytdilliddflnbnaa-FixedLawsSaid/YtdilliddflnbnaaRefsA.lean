/- What the reference's sums, sizes and lengths come to. -/
import Derived.Test.YtdilliddflnbnaaSizeRA
import Derived.Test.YtdilliddflnbnaaPAx2
namespace Go.Proofs.Ytdilliddflnbnaa.PA
open Go.RowKit Go.Proofs.YtdilliddflnbnaaW.PrintWords Go.Proofs.YtdilliddflnbnaaW.PrintLast Go.Proofs.YtdilliddflnbnaaW.PrintMore

theorem ref_Sat_eq (a : Int) : arrasref1_Sat.f a = some (sat a) := by
  unfold arrasref1_Sat.f mn mx sat
  congr 1
  repeat' split
  all_goals omega
theorem ref_Add_eq (a b : Int) : arrasref1_Add.f a b = some (sat (wrap64 (a + b))) := by simp [arrasref1_Add.f, ref_Sat_eq]
theorem refSizes_l0 (l : List Int) (gap most : Int) (hl : l.length ≤ 9223372036854775807) : ∀ (d i k : Nat), l.length - i = d → i ≤ l.length → d < k →
    arrasref19_Sizes.l0 k l gap most (i : Int) = some ((l.drop i).all pl && (decide ((l.length : Int) ≤ most) && pl gap)) := by
  intro d
  induction d with
  | zero =>
    intro i k hd hi hk
    obtain ⟨k, rfl⟩ : ∃ m, k = m + 1 := ⟨k - 1, by omega⟩
    simp only [arrasref19_Sizes.l0]
    rw [if_neg (by omega), List.drop_of_length_le (by omega), size_eq]
    by_cases h : (l.length : Int) ≤ most
    · rw [if_pos h]; simp [h]
    · rw [if_neg h]; simp [h]
  | succ d ih =>
    intro i k hd hi hk
    obtain ⟨k, rfl⟩ : ∃ m, k = m + 1 := ⟨k - 1, by omega⟩
    have hlt : i < l.length := by omega
    simp only [arrasref19_Sizes.l0]
    rw [if_pos (by omega), if_pos (by omega), size_eq, rd_nat hlt, all_drop hlt]
    simp only [Option.bind_some]
    cases h : pl l[i] with
    | true =>
      rw [if_pos rfl, len_next hlt hl, ih (i + 1) k (by omega) (by omega) (by omega), Bool.true_and]
    | false => rw [if_neg (by simp)]; simp
theorem refSizes_eq (l : List Int) (gap most : Int) (hl : l.length ≤ 9223372036854775807) {k : Nat} (hk : l.length + 1 ≤ k) : arrasref19_Sizes.f k l gap most = some (okS l [gap] most) := by
  have := refSizes_l0 l gap most hl l.length 0 k (by omega) (by omega) (by omega)
  simp only [List.drop_zero, Int.natCast_zero] at this
  show arrasref19_Sizes.l0 k l gap most 0 = _
  rw [this]
  simp [okS, Bool.and_comm]

theorem refLen_l0 (l : List Int) (gap : Int) (hl : l.length ≤ 9223372036854775807) : ∀ (d i k : Nat) (n : Int), l.length - i = d → i ≤ l.length → 0 < i → d < k → arrasref19_Length.l0 k l gap n (i : Int) = some (more gap n (l.drop i)) := by
  intro d
  induction d with
  | zero =>
    intro i k n hd hi hi0 hk
    obtain ⟨k, rfl⟩ : ∃ m, k = m + 1 := ⟨k - 1, by omega⟩
    simp only [arrasref19_Length.l0]
    rw [if_neg (by omega), List.drop_of_length_le (by omega)]
    rfl
  | succ d ih =>
    intro i k n hd hi hi0 hk
    obtain ⟨k, rfl⟩ : ∃ m, k = m + 1 := ⟨k - 1, by omega⟩
    have hlt : i < l.length := by omega
    simp only [arrasref19_Length.l0]
    rw [if_pos (by omega), if_pos (by omega), ref_Add_eq]
    simp only [Option.bind_some]
    rw [if_pos (by omega), ref_Add_eq]
    simp only [Option.bind_some]
    rw [len_next hlt hl, ih (i + 1) k _ (by omega) (by omega) (by omega) (by omega), rd_nat hlt, drop_nat hlt]
    rfl
theorem refLen_eq (l : List Int) (gap : Int) (hl : l.length ≤ 9223372036854775807) {k : Nat} (hk : l.length + 2 ≤ k) : arrasref19_Length.f k l gap = some (lenS gap l) := by
  obtain ⟨k, rfl⟩ : ∃ m, k = m + 1 := ⟨k - 1, by omega⟩
  simp only [arrasref19_Length.f, arrasref19_Length.l0]
  cases l with
  | nil => simp [lenS]
  | cons s r =>
    rw [if_pos (by simp), if_neg (by omega), if_pos (by omega), ref_Add_eq]
    simp only [Option.bind_some, w01]
    have := refLen_l0 (s :: r) gap hl r.length 1 k (sat (wrap64 (0 + rd (s :: r) 0))) (by simp) (by simp) (by omega) (by simp at hk; omega)
    simp only [Int.natCast_one] at this
    rw [this]
    simp [lenS, rd]

end Go.Proofs.Ytdilliddflnbnaa.PA
