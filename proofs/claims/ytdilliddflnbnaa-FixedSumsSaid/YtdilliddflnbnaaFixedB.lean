/- What the printed functions of package fixed come to: coordinates, sums, clamps; the list of numbers that the laws of fixed try. -/
import Derived.Test.YtdilliddflnbnaaBasicsFB
import Derived.Test.YtdilliddflnbnaaPBx1
import Derived.Test.YtdilliddflnbnaaPBx3
import Derived.KernelRfl
namespace Go.Proofs.Ytdilliddflnbnaa.PB
open Go.RowKit Go.Proofs.YtdilliddflnbnaaW.PrintWords Go.Proofs.YtdilliddflnbnaaW.PrintLast Go.Proofs.YtdilliddflnbnaaW.PrintMore

/-- A coordinate? -/
def co (n : Int) : Bool := decide (-1099511627776 ≤ n ∧ n ≤ 1099511627776)
theorem co_iff {n : Int} : co n = true ↔ -1099511627776 ≤ n ∧ n ≤ 1099511627776 := by simp [co]
theorem is_eq (a : Int) : fixed_Is.f a = some (co a) := by
  unfold fixed_Is.f co
  by_cases h : -1099511627776 ≤ a
  · rw [if_pos h]; simp [h]
  · rw [if_neg h]; simp [h]
theorem coord_eq (a : Int) : arrasref1_Coord.f a = some (co a) := by
  unfold arrasref1_Coord.f co
  by_cases h : -1099511627776 ≤ a
  · rw [if_pos h]; simp [h]
  · rw [if_neg h]; simp [h]

/-- The numbers that are tried. -/
def allS (l : List Int) : List Int := [0, 1, -1, 63, 64, -64, 1099511627776, -1099511627776, 1099511627777, -1099511627777] ++ l.take 12
theorem allS_len (l : List Int) : (allS l).length ≤ 22 := by simp [allS]; omega
theorem allS_bd {l : List Int} (h : ∀ y ∈ l, (Lit.int .i64 y).wf = true) : ∀ y ∈ allS l, -9223372036854775808 ≤ y ∧ y ≤ 9223372036854775807 := by
  intro y hy
  rcases List.mem_append.1 hy with hy | hy
  · simp only [List.mem_cons, List.not_mem_nil, or_false] at hy
    rcases hy with rfl | rfl | rfl | rfl | rfl | rfl | rfl | rfl | rfl | rfl <;> omega
  · exact wf64 (h y (List.mem_of_mem_take hy))
theorem all_l0 (l : List Int) : ∀ (d i k : Nat) (acc : List Int), 12 - i = d → i ≤ 12 → i ≤ l.length → acc.length ≤ 10 + i → d < k → arraslaw1_all.l0 k l acc (i : Int) = some (acc ++ (l.take 12).drop i) := by
  intro d
  have fin : ∀ (i k : Nat) (acc : List Int), ¬ (i < l.length ∧ i < 12) → i ≤ 12 → i ≤ l.length → 0 < k → arraslaw1_all.l0 k l acc (i : Int) = some (acc ++ (l.take 12).drop i) := by
    intro i k acc hi h12 hl hk
    obtain ⟨k, rfl⟩ : ∃ m, k = m + 1 := ⟨k - 1, by omega⟩
    simp only [arraslaw1_all.l0]
    rw [List.drop_of_length_le (by simp; omega), List.append_nil]
    by_cases c : (i : Int) < (l.length : Int)
    · rw [if_pos c, if_neg (by omega)]
    · rw [if_neg c]
  induction d with
  | zero => exact fun i k acc hd h12 hl ha hk => fin i k acc (by omega) h12 hl hk
  | succ d ih =>
    intro i k acc hd h12 hl ha hk
    by_cases c : i < l.length
    · obtain ⟨k, rfl⟩ : ∃ m, k = m + 1 := ⟨k - 1, by omega⟩
      simp only [arraslaw1_all.l0]
      rw [if_pos (by omega), if_pos (by omega), if_pos (by omega), if_pos (by omega), w_nat1 (by omega), ih (i + 1) k _ (by omega) (by omega) (by omega) (by simp; omega) (by omega), rd_nat c]
      have hlt : i < (l.take 12).length := by simp; omega
      rw [drop_nat hlt]
      simp
    · exact fin i k acc (by omega) h12 hl (by omega)
theorem all_eq (l : List Int) {k : Nat} (hk : 13 ≤ k) : arraslaw1_all.f k l = some (allS l) := by
  have := all_l0 l 12 0 k [0, 1, -1, 63, 64, -64, 1099511627776, -1099511627776, 1099511627777, -1099511627777] rfl (by omega) (by omega) (by simp) (by omega)
  exact this

theorem fwakes : ∀ k, 60 ≤ k → arraslaw1_wakes.f k = some true := fun k hk => at_rounds arraslaw1_wakes.mono hk (by kernel_rfl)
theorem told_ok {n w : Int} (h : n = w) : arraslaw1_told.f n 0 true w = some true := by
  simp [arraslaw1_told.f, arraslaw1_num.f, h]
theorem told_no (w : Int) : arraslaw1_told.f 0 1 false w = some true := by
  simp [arraslaw1_told.f, arraslaw1_num.f]
end Go.Proofs.Ytdilliddflnbnaa.PB
