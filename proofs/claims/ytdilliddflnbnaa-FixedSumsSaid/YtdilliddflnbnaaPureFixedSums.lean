/- The pure statement of FixedSums: every pair of the tried numbers is added and subtracted as the second writing does it, and refused where it refuses. -/
import Derived.Test.YtdilliddflnbnaaTellFixedSums
import Derived.Test.YtdilliddflnbnaaFixedB
namespace Go.Proofs.Ytdilliddflnbnaa.TFixedSums
open Go.RowKit Go.Proofs.YtdilliddflnbnaaW.PrintWords Go.Proofs.YtdilliddflnbnaaW.PrintMore Go.Proofs.Ytdilliddflnbnaa.PB

theorem refSat_eq (n : Int) : arrasref1_Sat.f n = some (sat n) := by
  unfold arrasref1_Sat.f mx mn sat
  congr 1
  repeat' split
  all_goals omega
theorem check_eq (a : Int) : fixed_Check.f a = some (if co a then 0 else 1) := by
  unfold fixed_Check.f
  rw [is_eq]
  cases co a <;> rfl
theorem add_in {a b : Int} (ha : co a = true) (hb : co b = true) {k : Nat} (hk : 5 ≤ k) : fixed_Add.f k a b = some (sat (wrap64 (a + b)), 0) := by
  simp only [fixed_Add.f, is_eq, Option.bind_some, ha, hb, if_true]
  rw [plus1 _ _ (by omega)]
  rfl
theorem sub_in {a b : Int} (ha : co a = true) (hb : co b = true) : fixed_Sub.f a b = some (sat (wrap64 (a - b)), 0) := by
  simp only [fixed_Sub.f, fixed_Minus.f, is_eq, Option.bind_some, ha, hb, if_true, fixed_Sat_eq]
theorem add_out {a b : Int} (h : (co a && co b) = false) (k : Nat) : fixed_Add.f k a b = some (0, 1) := by
  simp only [fixed_Add.f, is_eq, Option.bind_some]
  cases ha : co a <;> cases hb : co b <;> simp_all
theorem sub_out {a b : Int} (h : (co a && co b) = false) : fixed_Sub.f a b = some (0, 1) := by
  simp only [fixed_Sub.f, is_eq, Option.bind_some]
  cases ha : co a <;> cases hb : co b <;> simp_all
theorem refAdd_eq (a b : Int) : arrasref1_Add.f a b = some (sat (wrap64 (a + b))) := by simp only [arrasref1_Add.f, refSat_eq, Option.bind_some]
theorem refSub_eq (a b : Int) : arrasref1_Sub.f a b = some (sat (wrap64 (a - b))) := by simp only [arrasref1_Sub.f, refSat_eq, Option.bind_some]

section
variable (l : List Int) (i : Nat) (hi : i < l.length) (h22 : l.length ≤ 22) (K : Nat) (hn : ∀ k, K ≤ k → arraslaw1_FixedSums.l0 k l ((i : Int) + 1) = some true)
include hi h22
theorem j3_eq (m : Nat) (hm : m < l.length) {k : Nat} (hk : 5 ≤ k) (hnext : arraslaw1_FixedSums.l1 k l (i : Int) ((m : Int) + 1) = some true) : arraslaw1_FixedSums.j3 (k + 2) l (i : Int) (m : Int) (co (rd l (i : Int)) && co (rd l (m : Int))) = some true := by
  have j4 : arraslaw1_FixedSums.j4 (k + 1) l (i : Int) (m : Int) false = some true := by
    simp only [arraslaw1_FixedSums.j4, Bool.false_eq_true, if_false]
    rw [w_nat1 (by omega)]
    exact hnext
  simp only [arraslaw1_FixedSums.j3]
  rw [if_pos (by omega), if_pos (by omega), if_pos (by omega), if_pos (by omega)]
  generalize rd l (i : Int) = a
  generalize rd l (m : Int) = b
  cases h : (co a && co b)
  · rw [add_out h, sub_out h]
    simp only [Option.bind_some, Bool.false_eq_true, if_false, told_no, if_true, Bool.not_true]
    exact j4
  · have ⟨ha, hb⟩ := Bool.and_eq_true_iff.1 h
    rw [add_in ha hb (by omega), sub_in ha hb]
    simp only [Option.bind_some, if_true, refAdd_eq, refSub_eq, told_ok]
    exact j4
include hn
theorem inner : ∀ (d m : Nat), l.length - m = d → m ≤ l.length → ∀ k, K + 60 + 4 * d ≤ k → arraslaw1_FixedSums.l1 k l (i : Int) (m : Int) = some true := by
  intro d
  induction d with
  | zero =>
    intro m hd hm k hk
    obtain ⟨k, rfl⟩ : ∃ q, k = q + 1 := ⟨k - 1, by omega⟩
    simp only [arraslaw1_FixedSums.l1]
    rw [if_neg (by omega), w_nat1 (by omega)]
    have := hn k (by omega)
    rwa [Int.natCast_add, Int.natCast_one]
  | succ d ih =>
    intro m hd hm k hk
    obtain ⟨k, rfl⟩ : ∃ q, k = q + 3 := ⟨k - 3, by omega⟩
    have h1 := ih (m + 1) (by omega) (by omega) k (by omega)
    rw [Int.natCast_add, Int.natCast_one] at h1
    have h2 := j3_eq l i hi h22 m (by omega) (k := k) (by omega) h1
    simp only [arraslaw1_FixedSums.l1]
    rw [if_pos (by omega), if_pos (by omega), if_pos (by omega), coord_eq]
    simp only [Option.bind_some]
    cases ca : co (rd l (i : Int))
    · rw [ca] at h2
      simpa using h2
    · rw [ca] at h2
      simp only [if_true]
      rw [if_pos (by omega), coord_eq]
      simpa using h2
theorem step {k : Nat} (hk : K + 400 ≤ k) : arraslaw1_FixedSums.l0 k l (i : Int) = some true := by
  obtain ⟨k, rfl⟩ : ∃ q, k = q + 2 := ⟨k - 2, by omega⟩
  simp only [arraslaw1_FixedSums.l0]
  rw [if_pos (by omega), if_pos (by omega), check_eq, coord_eq, fixed_Sat_eq, refSat_eq]
  simp only [Option.bind_some, arraslaw1_num.f]
  have h := inner l i hi h22 K hn l.length 0 (by omega) (by omega) k (by omega)
  have e : (((if co (rd l (i : Int)) = true then (0 : Int) else 1) == 0) != co (rd l (i : Int))) = false := by cases co (rd l (i : Int)) <;> rfl
  rw [e]
  simp only [Bool.false_eq_true, if_false, arraslaw1_FixedSums.j1, bne_self_eq_false]
  exact h
end
theorem loop (l : List Int) (h22 : l.length ≤ 22) : ∀ (d i : Nat), l.length - i = d → i ≤ l.length → ∃ K, ∀ k, K ≤ k → arraslaw1_FixedSums.l0 k l (i : Int) = some true := by
  intro d
  induction d with
  | zero =>
    refine fun i hd hi => ⟨100, fun k hk => ?_⟩
    obtain ⟨k, rfl⟩ : ∃ m, k = m + 1 := ⟨k - 1, by omega⟩
    simp only [arraslaw1_FixedSums.l0]
    rw [if_neg (by omega), fwakes k (by omega)]
    rfl
  | succ d ih =>
    intro i hd hi
    obtain ⟨K, hn⟩ := ih (i + 1) (by omega) (by omega)
    rw [Int.natCast_add, Int.natCast_one] at hn
    exact ⟨K + 400, fun k hk => step l i (by omega) h22 K hn hk⟩
/-- The law, over numbers and lists. -/
theorem pure : Pure := fun l _ => by
  obtain ⟨K, hK⟩ := loop (allS l) (allS_len l) (allS l).length 0 (by omega) (by omega)
  refine ⟨K + 20, ?_⟩
  unfold arraslaw1_FixedSums.f
  rw [all_eq l (by omega), Option.bind_some]
  exact hK _ (by omega)
end Go.Proofs.Ytdilliddflnbnaa.TFixedSums
