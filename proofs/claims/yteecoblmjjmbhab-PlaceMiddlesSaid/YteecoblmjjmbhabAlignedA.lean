/- Where one stands across its line, in one way: the loop that the four laws share. -/
import Derived.Test.YteecoblmjjmbhabAlignFA
import Derived.Test.YteecoblmjjmbhabPAx0
import Derived.Test.YteecoblmjjmbhabPAx2
import Derived.Test.YteecoblmjjmbhabPAx4
namespace Go.Proofs.Yteecoblmjjmbhab.PA
open Go.RowKit Go.Proofs.YteecoblmjjmbhabW.PrintWords

theorem rd_T' (l : List S27) (i : Nat) (h : i < l.length) : rd_T27 l (i : Int) = l[i] := by simp [rd_T27, List.getD_eq_getElem?_getD, h]
theorem al1 (l : List S27) (how : Int) (i : Nat) (hi : i < l.length) (h12 : i < 12) (K : Nat) (hn : ∀ k, K ≤ k → arraslaw21_aligned.l0 k l how ((i : Int) + 1) = some true) : ∀ (d j k : Nat), 30 - j = d → j ≤ 30 → j ≤ l[i].f0.length → K + 3 * d + 10 ≤ k → arraslaw21_aligned.l1 k l how (i : Int) (j : Int) = some true := by
  have hw : wrap64 ((i : Int) + 1) = (i : Int) + 1 := w64 (by omega) (by omega)
  replace hw := Aside0.mk hw
  have hrd := Aside0.mk (rd_T' l i hi)
  intro d
  have fin : ∀ (j k : Nat), ¬ (j < l[i].f0.length ∧ j < 30) → j ≤ 30 → j ≤ l[i].f0.length → K + 5 ≤ k → arraslaw21_aligned.l1 k l how (i : Int) (j : Int) = some true := by
    intro j k hj h30 hjl hk
    obtain ⟨k, rfl⟩ : ∃ m, k = m + 2 := ⟨k - 2, by omega⟩
    simp only [arraslaw21_aligned.l1]
    rw [if_pos (by omega), if_pos (by omega), hrd.out]
    by_cases c : (j : Int) < (l[i].f0.length : Int)
    · rw [if_pos c]
      simp only [arraslaw21_aligned.j3]
      rw [if_neg (by simp; omega), hw.out]
      exact hn k (by omega)
    · rw [if_neg c]
      simp only [arraslaw21_aligned.j3]
      rw [if_neg (by simp), hw.out]
      exact hn k (by omega)
  induction d with
  | zero => exact fun j k hd h30 hjl hk => fin j k (by omega) h30 hjl (by omega)
  | succ d ih =>
    intro j k hd h30 hjl hk
    by_cases c : j < l[i].f0.length
    · obtain ⟨k, rfl⟩ : ∃ m, k = m + 3 := ⟨k - 3, by omega⟩
      have hnext := ih (j + 1) k (by omega) (by omega) (by omega) (by omega)
      have hwj := Aside0.mk (w_nat1 (n := j) (by omega))
      simp only [arraslaw21_aligned.l1]
      rw [if_pos (by omega), if_pos (by omega), hrd.out, if_pos (by omega)]
      simp only [arraslaw21_aligned.j3]
      rw [if_pos (by simp; omega), if_pos (by omega), if_pos (by omega), if_pos (by omega), hrd.out, if_pos (by omega), align_eq]
      simp only [Option.bind_some]
      rw [refMayA_eq]
      simp only [Option.bind_some]
      by_cases h : mayA (rd l[i].f0 (j : Int)) l[i].f2 how = true
      · rw [if_pos h, if_pos h]
        simp only [arraslaw21_aligned.j4, arraslaw21_num.f, Option.bind_some, if_true]
        rw [if_pos (by omega), if_pos (by omega), if_pos (by omega), hrd.out, if_pos (by omega), refAlign_eq h]
        simp only [Option.bind_some]
        rw [if_neg (by simp), hwj.out]
        exact hnext
      · rw [if_neg h, if_neg h]
        simp only [arraslaw21_aligned.j4, arraslaw21_num.f, Option.bind_some, if_true]
        rw [if_neg (by omega), hwj.out]
        exact hnext
    · exact fin j k (by omega) h30 hjl (by omega)
theorem aloop (l : List S27) (how : Int) : ∀ (d i : Nat), 12 - i = d → i ≤ l.length → i ≤ 12 → ∃ K, ∀ k, K ≤ k → arraslaw21_aligned.l0 k l how (i : Int) = some true := by
  intro d
  have fin : ∀ (i : Nat), ¬ (i < l.length ∧ i < 12) → i ≤ l.length → ∃ K, ∀ k, K ≤ k → arraslaw21_aligned.l0 k l how (i : Int) = some true := by
    refine fun i hi hil => ⟨100, fun k hk => ?_⟩
    obtain ⟨k, rfl⟩ : ∃ m, k = m + 2 := ⟨k - 2, by omega⟩
    simp only [arraslaw21_aligned.l0]
    by_cases c : (i : Int) < (l.length : Int)
    · rw [if_pos c]
      simp only [arraslaw21_aligned.j1]
      rw [if_neg (by simp; omega), pwakes k (by omega)]
      rfl
    · rw [if_neg c]
      simp only [arraslaw21_aligned.j1]
      rw [if_neg (by simp), pwakes k (by omega)]
      rfl
  induction d with
  | zero => exact fun i hd hi h12 => fin i (by omega) hi
  | succ d ih =>
    intro i hd hi h12
    by_cases c : i < l.length
    · obtain ⟨K, hn⟩ := ih (i + 1) (by omega) (by omega) (by omega)
      rw [Int.natCast_add, Int.natCast_one] at hn
      refine ⟨K + 200, fun k hk => ?_⟩
      obtain ⟨k, rfl⟩ : ∃ m, k = m + 2 := ⟨k - 2, by omega⟩
      simp only [arraslaw21_aligned.l0]
      rw [if_pos (by omega)]
      simp only [arraslaw21_aligned.j1]
      rw [if_pos (by simp; omega)]
      exact al1 l how i c (by omega) K hn 30 0 k rfl (by omega) (by omega) (by omega)
    · exact fin i (by omega) hi
theorem aligned (l : List S27) (how : Int) : ∃ k, arraslaw21_aligned.f k l how = some true := by
  obtain ⟨K, hK⟩ := aloop l how 12 0 (by omega) (by omega) (by omega)
  exact ⟨K, hK K (Nat.le_refl _)⟩
end Go.Proofs.Yteecoblmjjmbhab.PA
