/- The pure statement of PlaceStacks: where each one of any row begins, one behind the other, is the page's, or refused. -/
import Derived.Test.YteecoblmjjmbhaaTellPlaceStacks
import Derived.Test.YteecoblmjjmbhaaStackA
namespace Go.Proofs.Yteecoblmjjmbhaa.TPlaceStacks
open Go.RowKit Go.Proofs.YteecoblmjjmbhaaW.PrintWords Go.Proofs.Yteecoblmjjmbhaa.PA

theorem rd_T (l : List S27) (i : Nat) (h : i < l.length) : rd_T27 l (i : Int) = l[i] := by simp [rd_T27, List.getD_eq_getElem?_getD, h]
theorem step (l : List S27) (i : Nat) (hi : i < l.length) (h12 : i < 12) (K : Nat) (hn : ∀ k, K ≤ k → arraslaw21_PlaceStacks.l0 k l ((i : Int) + 1) = some true) : ∃ K', ∀ k, K' ≤ k → arraslaw21_PlaceStacks.l0 k l (i : Int) = some true := by
  have hw : wrap64 ((i : Int) + 1) = (i : Int) + 1 := w64 (by omega) (by omega)
  replace hw := Aside0.mk hw
  refine ⟨K + 2000, fun k hk => ?_⟩
  obtain ⟨k, rfl⟩ : ∃ m, k = m + 3 := ⟨k - 3, by omega⟩
  simp only [arraslaw21_PlaceStacks.l0]
  rw [if_pos (by omega)]
  simp only [arraslaw21_PlaceStacks.j1]
  rw [if_pos (by simp; omega), if_pos (by omega), if_pos (by omega), rd_T l i hi]
  generalize l[i] = p
  obtain ⟨L, g, r, h⟩ := p
  simp only
  by_cases hL : (L.length : Int) > 1500
  · rw [if_pos hL]
  · rw [if_neg hL, stack_eq L g (by omega) (by omega)]
    simp only [Option.bind_some]
    rw [refSizes_eq L g 1000 (by omega) (by omega)]
    simp only [Option.bind_some]
    by_cases c : okS L [g] 1000 = true
    · rw [if_pos c, if_pos c, refStack_eq L g (by omega) (by omega)]
      simp only [Option.bind_some, arraslaw21_PlaceStacks.j2, arraslaw21_num.f, if_true]
      have hl := rowS_len (nx1 g) L 0
      rw [eqNums_eq _ _ (by omega) (by omega)]
      simp only [Option.bind_some, decide_true, if_true]
      rw [hw.out]
      exact hn k (by omega)
    · rw [if_neg c, if_neg c]
      simp only [arraslaw21_PlaceStacks.j2, arraslaw21_num.f, Option.bind_some, if_true]
      rw [eqNums_eq _ _ (by simp) (by simp; omega)]
      simp only [Option.bind_some, decide_true, if_true]
      rw [hw.out]
      exact hn k (by omega)
theorem loop (l : List S27) : ∀ (d i : Nat), 12 - i = d → i ≤ l.length → i ≤ 12 → ∃ K, ∀ k, K ≤ k → arraslaw21_PlaceStacks.l0 k l (i : Int) = some true := by
  intro d
  have fin : ∀ (i : Nat), ¬ (i < l.length ∧ i < 12) → i ≤ l.length → ∃ K, ∀ k, K ≤ k → arraslaw21_PlaceStacks.l0 k l (i : Int) = some true := by
    refine fun i hi hil => ⟨100, fun k hk => ?_⟩
    obtain ⟨k, rfl⟩ : ∃ m, k = m + 2 := ⟨k - 2, by omega⟩
    simp only [arraslaw21_PlaceStacks.l0]
    by_cases c : (i : Int) < (l.length : Int)
    · rw [if_pos c]
      simp only [arraslaw21_PlaceStacks.j1]
      rw [if_neg (by simp; omega), pwakes k (by omega)]
      rfl
    · rw [if_neg c]
      simp only [arraslaw21_PlaceStacks.j1]
      rw [if_neg (by simp), pwakes k (by omega)]
      rfl
  induction d with
  | zero => exact fun i hd hi h12 => fin i (by omega) hi
  | succ d ih =>
    intro i hd hi h12
    by_cases c : i < l.length
    · obtain ⟨K, hn⟩ := ih (i + 1) (by omega) (by omega) (by omega)
      rw [Int.natCast_add, Int.natCast_one] at hn
      exact step l i c (by omega) K hn
    · exact fin i (by omega) hi
/-- The law, over numbers and lists. -/
theorem pure : Pure := fun l _ => by
  obtain ⟨K, hK⟩ := loop l 12 0 (by omega) (by omega) (by omega)
  exact ⟨K, hK K (Nat.le_refl _)⟩
end Go.Proofs.Yteecoblmjjmbhaa.TPlaceStacks
