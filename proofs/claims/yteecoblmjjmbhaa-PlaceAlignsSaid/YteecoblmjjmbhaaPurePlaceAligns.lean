/- The pure statement of PlaceAligns: where one stands across its line, in each of the ways, is the page's, or refused. -/
import Derived.Test.YteecoblmjjmbhaaTellPlaceAligns
import Derived.Test.YteecoblmjjmbhaaAlignFB
namespace Go.Proofs.Yteecoblmjjmbhaa.TPlaceAligns
open Go.RowKit Go.Proofs.YteecoblmjjmbhaaW.PrintWords Go.Proofs.Yteecoblmjjmbhaa.PB

theorem rd_T (l : List S27) (i : Nat) (h : i < l.length) : rd_T27 l (i : Int) = l[i] := by simp [rd_T27, List.getD_eq_getElem?_getD, h]
section
variable (l : List S27) (i : Nat) (hi : i < l.length) (h12 : i < 12)
include hi
theorem l2 (j : Nat) (hj : j < l[i].f0.length) (h20 : j < 20) (K : Nat) (hn : ∀ k, K ≤ k → arraslaw21_PlaceAligns.l1 k l (i : Int) ((j : Int) + 1) = some true) : ∀ (d : Nat) (q : Int) (k : Nat), 5 - q = d → -1 ≤ q → q ≤ 5 → K + 2 * d + 5 ≤ k → arraslaw21_PlaceAligns.l2 k l (i : Int) (j : Int) q = some true := by
  have hrd := Aside0.mk (rd_T l i hi)
  have hwj := Aside0.mk (w64 (n := (j : Int) + 1) (by omega) (by omega))
  intro d
  induction d with
  | zero =>
    intro q k hd h1 h2 hk
    obtain ⟨k, rfl⟩ : ∃ m, k = m + 1 := ⟨k - 1, by omega⟩
    simp only [arraslaw21_PlaceAligns.l2]
    rw [if_neg (by omega), hwj.out]
    exact hn k (by omega)
  | succ d ih =>
    intro q k hd h1 h2 hk
    obtain ⟨k, rfl⟩ : ∃ m, k = m + 2 := ⟨k - 2, by omega⟩
    have hnext := ih (q + 1) k (by omega) (by omega) (by omega) (by omega)
    have hq := Aside0.mk (w64 (n := q + 1) (by omega) (by omega))
    simp only [arraslaw21_PlaceAligns.l2]
    rw [if_pos (by omega), if_pos (by omega), if_pos (by omega), if_pos (by omega), hrd.out, if_pos (by omega), align_eq]
    simp only [Option.bind_some]
    rw [refMayA_eq]
    simp only [Option.bind_some]
    by_cases h : mayA (rd l[i].f0 (j : Int)) l[i].f2 q = true
    · rw [if_pos h, if_pos h, refAlign_eq h]
      simp only [Option.bind_some, arraslaw21_PlaceAligns.j5, arraslaw21_num.f, if_true]
      rw [if_neg (by simp), hq.out]
      exact hnext
    · rw [if_neg h, if_neg h]
      simp only [arraslaw21_PlaceAligns.j5, arraslaw21_num.f, Option.bind_some, if_true]
      rw [if_neg (by simp), hq.out]
      exact hnext
include h12
theorem l1 (K : Nat) (hn : ∀ k, K ≤ k → arraslaw21_PlaceAligns.l0 k l ((i : Int) + 1) = some true) : ∀ (d j : Nat), 20 - j = d → j ≤ 20 → j ≤ l[i].f0.length → ∃ K', ∀ k, K' ≤ k → arraslaw21_PlaceAligns.l1 k l (i : Int) (j : Int) = some true := by
  have hrd := Aside0.mk (rd_T l i hi)
  have hw := Aside0.mk (w64 (n := (i : Int) + 1) (by omega) (by omega))
  intro d
  have fin : ∀ (j : Nat), ¬ (j < l[i].f0.length ∧ j < 20) → j ≤ 20 → j ≤ l[i].f0.length → ∃ K', ∀ k, K' ≤ k → arraslaw21_PlaceAligns.l1 k l (i : Int) (j : Int) = some true := by
    refine fun j hj h30 hjl => ⟨K + 5, fun k hk => ?_⟩
    obtain ⟨k, rfl⟩ : ∃ m, k = m + 2 := ⟨k - 2, by omega⟩
    simp only [arraslaw21_PlaceAligns.l1]
    rw [if_pos (by omega), if_pos (by omega), hrd.out]
    by_cases c : (j : Int) < (l[i].f0.length : Int)
    · rw [if_pos c]
      simp only [arraslaw21_PlaceAligns.j3]
      rw [if_neg (by simp; omega), hw.out]
      exact hn k (by omega)
    · rw [if_neg c]
      simp only [arraslaw21_PlaceAligns.j3]
      rw [if_neg (by simp), hw.out]
      exact hn k (by omega)
  induction d with
  | zero => exact fun j hd h30 hjl => fin j (by omega) h30 hjl
  | succ d ih =>
    intro j hd h30 hjl
    by_cases c : j < l[i].f0.length
    · obtain ⟨K', hK'⟩ := ih (j + 1) (by omega) (by omega) (by omega)
      rw [Int.natCast_add, Int.natCast_one] at hK'
      refine ⟨K' + 100, fun k hk => ?_⟩
      obtain ⟨k, rfl⟩ : ∃ m, k = m + 2 := ⟨k - 2, by omega⟩
      simp only [arraslaw21_PlaceAligns.l1]
      rw [if_pos (by omega), if_pos (by omega), hrd.out, if_pos (by omega)]
      simp only [arraslaw21_PlaceAligns.j3]
      rw [if_pos (by simp; omega)]
      exact l2 l i hi j c (by omega) K' hK' 6 (-1) k (by omega) (by omega) (by omega) (by omega)
    · exact fin j (by omega) h30 hjl
end
theorem loop (l : List S27) : ∀ (d i : Nat), 12 - i = d → i ≤ l.length → i ≤ 12 → ∃ K, ∀ k, K ≤ k → arraslaw21_PlaceAligns.l0 k l (i : Int) = some true := by
  intro d
  have fin : ∀ (i : Nat), ¬ (i < l.length ∧ i < 12) → i ≤ l.length → ∃ K, ∀ k, K ≤ k → arraslaw21_PlaceAligns.l0 k l (i : Int) = some true := by
    refine fun i hi hil => ⟨100, fun k hk => ?_⟩
    obtain ⟨k, rfl⟩ : ∃ m, k = m + 2 := ⟨k - 2, by omega⟩
    simp only [arraslaw21_PlaceAligns.l0]
    by_cases c : (i : Int) < (l.length : Int)
    · rw [if_pos c]
      simp only [arraslaw21_PlaceAligns.j1]
      rw [if_neg (by simp; omega), pwakes k (by omega)]
      rfl
    · rw [if_neg c]
      simp only [arraslaw21_PlaceAligns.j1]
      rw [if_neg (by simp), pwakes k (by omega)]
      rfl
  induction d with
  | zero => exact fun i hd hi h12 => fin i (by omega) hi
  | succ d ih =>
    intro i hd hi h12
    by_cases c : i < l.length
    · obtain ⟨K, hn⟩ := ih (i + 1) (by omega) (by omega) (by omega)
      rw [Int.natCast_add, Int.natCast_one] at hn
      obtain ⟨K', hK'⟩ := l1 l i c (by omega) K hn 20 0 rfl (by omega) (by omega)
      refine ⟨K' + 5, fun k hk => ?_⟩
      obtain ⟨k, rfl⟩ : ∃ m, k = m + 2 := ⟨k - 2, by omega⟩
      simp only [arraslaw21_PlaceAligns.l0]
      rw [if_pos (by omega)]
      simp only [arraslaw21_PlaceAligns.j1]
      rw [if_pos (by simp; omega)]
      exact hK' k (by omega)
    · exact fin i (by omega) hi
/-- The law, over numbers and lists. -/
theorem pure : Pure := fun l _ => by
  obtain ⟨K, hK⟩ := loop l 12 0 (by omega) (by omega) (by omega)
  exact ⟨K, hK K (Nat.le_refl _)⟩
end Go.Proofs.Yteecoblmjjmbhaa.TPlaceAligns
