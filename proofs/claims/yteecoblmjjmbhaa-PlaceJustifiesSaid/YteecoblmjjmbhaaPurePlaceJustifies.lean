/- The pure statement of PlaceJustifies: where each one of a line begins, in each of the ways, is the page's, or refused; so is where they begin one behind the other. -/
import Derived.Test.YteecoblmjjmbhaaTellPlaceJustifies
import Derived.Test.YteecoblmjjmbhaaStackA
namespace Go.Proofs.Yteecoblmjjmbhaa.TPlaceJustifies
open Go.RowKit Go.Proofs.YteecoblmjjmbhaaW.PrintWords Go.Proofs.Yteecoblmjjmbhaa.PA

theorem rd_T (l : List S27) (i : Nat) (h : i < l.length) : rd_T27 l (i : Int) = l[i] := by simp [rd_T27, List.getD_eq_getElem?_getD, h]
theorem justS_len (l : List Int) (gap room how : Int) : (justS l gap room how).length = l.length := by simp only [justS, rowS_len]

section
variable (l : List S27) (i : Nat) (h12 : i < 12) (K : Nat) (hn : ∀ k, K ≤ k → arraslaw21_PlaceJustifies.l0 k l ((i : Int) + 1) = some true) (L : List Int) (g r h : Int) (hL : L.length ≤ 1500)
include hL
theorem way (how q : Int) (K' : Nat) (hn' : ∀ k, K' ≤ k → arraslaw21_PlaceJustifies.l1 k l (i : Int) L (wrap64 (q + 1)) L g r h = some true) {k : Nat} (hk : K' + 1600 ≤ k) : arraslaw21_PlaceJustifies.j3 k l (i : Int) L q how L g r h = some true := by
  obtain ⟨k, rfl⟩ : ∃ m, k = m + 2 := ⟨k - 2, by omega⟩
  simp only [arraslaw21_PlaceJustifies.j3]
  rw [justify_eq L g r how (by omega) (by omega)]
  simp only [Option.bind_some]
  rw [refMayJ_eq L g r how (by omega) (by omega)]
  simp only [Option.bind_some]
  by_cases c : mayJ L g r how = true
  · rw [if_pos c, if_pos c, refJustify_eq L g r how c (by omega)]
    have hl := justS_len L g r how
    simp only [Option.bind_some, arraslaw21_PlaceJustifies.j4, arraslaw21_num.f, if_true]
    rw [eqNums_eq _ _ (by omega) (by omega)]
    simp only [Option.bind_some, decide_true, if_true]
    rw [numbers_eq _ (by omega) (by omega)]
    simp only [Option.bind_some]
    exact hn' k (by omega)
  · rw [if_neg c, if_neg c]
    simp only [arraslaw21_PlaceJustifies.j4, arraslaw21_num.f, Option.bind_some, if_true]
    rw [eqNums_eq _ _ (by simp) (by simp; omega)]
    simp only [Option.bind_some, decide_true, if_true]
    rw [numbers_eq _ (by simp) (by simp; omega)]
    simp only [Option.bind_some]
    exact hn' k (by omega)
include hn h12
theorem ways : ∀ (d : Nat) (q : Int), 6 - q = d → -1 ≤ q → q ≤ 6 → ∃ K', ∀ k, K' ≤ k → arraslaw21_PlaceJustifies.l1 k l (i : Int) L q L g r h = some true := by
  have hw : wrap64 ((i : Int) + 1) = (i : Int) + 1 := w64 (by omega) (by omega)
  replace hw := Aside0.mk hw
  intro d
  induction d with
  | zero =>
    refine fun q hd h1 h2 => ⟨K + 2000, fun k hk => ?_⟩
    obtain ⟨k, rfl⟩ : ∃ m, k = m + 2 := ⟨k - 2, by omega⟩
    simp only [arraslaw21_PlaceJustifies.l1]
    rw [if_neg (by omega), stack_eq L g (by omega) (by omega)]
    simp only [Option.bind_some]
    rw [refSizes_eq L g 1000 (by omega) (by omega)]
    simp only [Option.bind_some]
    by_cases c : okS L [g] 1000 = true
    · rw [if_pos c, if_pos c, refStack_eq L g (by omega) (by omega)]
      have hl := rowS_len (nx1 g) L 0
      simp only [Option.bind_some, arraslaw21_PlaceJustifies.j5, arraslaw21_num.f, if_true]
      rw [eqNums_eq _ _ (by omega) (by omega)]
      simp only [Option.bind_some, decide_true, if_true]
      rw [eqNums_eq _ _ (by omega) (by omega)]
      simp only [Option.bind_some, decide_true, if_true]
      rw [hw.out]
      exact hn k (by omega)
    · rw [if_neg c, if_neg c]
      simp only [arraslaw21_PlaceJustifies.j5, arraslaw21_num.f, Option.bind_some, if_true]
      rw [eqNums_eq _ _ (by simp) (by simp; omega)]
      simp only [Option.bind_some, decide_true, if_true]
      rw [eqNums_eq _ _ (by omega) (by omega)]
      simp only [Option.bind_some, decide_true, if_true]
      rw [hw.out]
      exact hn k (by omega)
  | succ d ih =>
    intro q hd h1 h2
    obtain ⟨K', hK'⟩ := ih (q + 1) (by omega) (by omega) (by omega)
    have hq : wrap64 (q + 1) = q + 1 := w64 (by omega) (by omega)
    rw [← hq] at hK'
    replace hq := Aside0.mk hq
    refine ⟨K' + 2000, fun k hk => ?_⟩
    obtain ⟨k, rfl⟩ : ∃ m, k = m + 1 := ⟨k - 1, by omega⟩
    simp only [arraslaw21_PlaceJustifies.l1]
    rw [if_pos (by omega)]
    by_cases c : q = 5
    · rw [if_pos c]
      exact way l i L g r h hL h q K' hK' (by omega)
    · rw [if_neg c]
      exact way l i L g r h hL q q K' hK' (by omega)
end

theorem step (l : List S27) (i : Nat) (hi : i < l.length) (h12 : i < 12) (K : Nat) (hn : ∀ k, K ≤ k → arraslaw21_PlaceJustifies.l0 k l ((i : Int) + 1) = some true) : ∃ K', ∀ k, K' ≤ k → arraslaw21_PlaceJustifies.l0 k l (i : Int) = some true := by
  have hrd := rd_T l i hi
  generalize l[i] = p at hrd
  obtain ⟨L, g, r, h⟩ := p
  by_cases hL : (L.length : Int) > 1500
  · refine ⟨2000, fun k hk => ?_⟩
    obtain ⟨k, rfl⟩ : ∃ m, k = m + 2 := ⟨k - 2, by omega⟩
    simp only [arraslaw21_PlaceJustifies.l0]
    rw [if_pos (by omega)]
    simp only [arraslaw21_PlaceJustifies.j1]
    rw [if_pos (by simp; omega), if_pos (by omega), if_pos (by omega), hrd, if_pos hL]
  · obtain ⟨K', hK'⟩ := ways l i h12 K hn L g r h (by omega) 7 (-1) (by omega) (by omega) (by omega)
    refine ⟨K' + 2000, fun k hk => ?_⟩
    obtain ⟨k, rfl⟩ : ∃ m, k = m + 2 := ⟨k - 2, by omega⟩
    simp only [arraslaw21_PlaceJustifies.l0]
    rw [if_pos (by omega)]
    simp only [arraslaw21_PlaceJustifies.j1]
    rw [if_pos (by simp; omega), if_pos (by omega), if_pos (by omega), hrd, if_neg hL]
    simp only
    rw [copy_eq L (by omega) (by omega)]
    simp only [Option.bind_some]
    exact hK' k (by omega)
theorem loop (l : List S27) : ∀ (d i : Nat), 12 - i = d → i ≤ l.length → i ≤ 12 → ∃ K, ∀ k, K ≤ k → arraslaw21_PlaceJustifies.l0 k l (i : Int) = some true := by
  intro d
  have fin : ∀ (i : Nat), ¬ (i < l.length ∧ i < 12) → i ≤ l.length → ∃ K, ∀ k, K ≤ k → arraslaw21_PlaceJustifies.l0 k l (i : Int) = some true := by
    refine fun i hi hil => ⟨100, fun k hk => ?_⟩
    obtain ⟨k, rfl⟩ : ∃ m, k = m + 2 := ⟨k - 2, by omega⟩
    simp only [arraslaw21_PlaceJustifies.l0]
    by_cases c : (i : Int) < (l.length : Int)
    · rw [if_pos c]
      simp only [arraslaw21_PlaceJustifies.j1]
      rw [if_neg (by simp; omega), pwakes k (by omega)]
      rfl
    · rw [if_neg c]
      simp only [arraslaw21_PlaceJustifies.j1]
      rw [if_neg (by simp), pwakes k (by omega)]
      rfl
  induction d with
  | zero => exact fun i hd hi h12 => fin i (by omega) hi
  | succ d ih =>
    intro i hd hi h12
    by_cases c : i < l.length
    · obtain ⟨K, hn⟩ := ih (i + 1) (by omega) (by omega) (by omega)
      rw [Int.natCast_add, Int.natCast_one] at hn
      exact step l i c (by omega) K hn
    · exact fin i (by omega) hi
/-- The law, over numbers and lists. -/
theorem pure : Pure := fun l _ => by
  obtain ⟨K, hK⟩ := loop l 12 0 (by omega) (by omega) (by omega)
  exact ⟨K, hK K (Nat.le_refl _)⟩
end Go.Proofs.Yteecoblmjjmbhaa.TPlaceJustifies
