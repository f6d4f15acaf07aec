/- The pure statement of PointSums: sums and differences of any two are the page's, or refused. -/
import Derived.Test.YtdpeeinmckohgaaTellPointSums
import Derived.Test.YtdpeeinmckohgaaPointsFB
namespace Go.Proofs.Ytdpeeinmckohgaa.TPointSums
open Go.RowKit Go.Proofs.YtdpeeinmckohgaaW.PrintWords Go.Proofs.Ytdpeeinmckohgaa.PB

theorem rd_T (l : List S26) (i : Nat) (h : i < l.length) : rd_T26 l (i : Int) = l[i] := by simp [rd_T26, List.getD_eq_getElem?_getD, h]
theorem fin (l : List S26) (i : Nat) (h : ¬ (i < l.length ∧ i < 12)) : ∀ k, 80 ≤ k → arraslaw3_PointSums.l0 k l (i : Int) = some true := by
  intro k hk
  obtain ⟨k, rfl⟩ : ∃ m, k = m + 2 := ⟨k - 2, by omega⟩
  simp only [arraslaw3_PointSums.l0]
  by_cases c : (i : Int) < (l.length : Int)
  · rw [if_pos c]
    simp only [arraslaw3_PointSums.j1]
    rw [if_neg (by simp; omega), pwakes k (by omega)]
    rfl
  · rw [if_neg c]
    simp only [arraslaw3_PointSums.j1]
    rw [if_neg (by simp), pwakes k (by omega)]
    rfl
theorem tmod4 (j : Nat) (h : j < 4) : Int.tmod ((j : Int) + 1) 4 = ((if j = 3 then 0 else j + 1 : Nat) : Int) := by
  match j, h with
  | 0, _ => rfl
  | 1, _ => rfl
  | 2, _ => rfl
  | 3, _ => rfl
theorem inner (l : List S26) (i : Nat) (hi : i < l.length) (h12 : i < 12) (K : Nat) (hn : ∀ k, K ≤ k → arraslaw3_PointSums.l0 k l ((i : Int) + 1) = some true) : ∀ (d j : Nat), 4 - j = d → j ≤ 4 → ∀ k, K + 100 + 4 * d ≤ k → arraslaw3_PointSums.l1 k l (i : Int) (j : Int) = some true := by
  intro d
  induction d with
  | zero =>
    intro j hd hj k hk
    obtain ⟨k, rfl⟩ : ∃ m, k = m + 1 := ⟨k - 1, by omega⟩
    simp only [arraslaw3_PointSums.l1]
    rw [if_neg (by omega), w64' (by omega) (by omega)]
    exact hn k (by omega)
  | succ d ih =>
    intro j hd hj k hk
    obtain ⟨k, rfl⟩ : ∃ m, k = m + 3 := ⟨k - 3, by omega⟩
    have hj4 : j < 4 := by omega
    have n := ih (j + 1) (by omega) (by omega) k (by omega)
    rw [Int.natCast_add, Int.natCast_one] at n
    have e0 := c_eq l[i] j hj4
    have e1 := c_eq l[i] (if j = 3 then 0 else j + 1) (by split <;> omega)
    rw [← tmod4 j hj4] at e1
    obtain ⟨p, hp⟩ : ∃ p, p = cc l[i] j := ⟨_, rfl⟩
    obtain ⟨q, hq⟩ : ∃ q, q = cc l[i] (if j = 3 then 0 else j + 1) := ⟨_, rfl⟩
    rw [← hp] at e0
    rw [← hq] at e1
    have hw : wrap64 ((j : Int) + 1) = (j : Int) + 1 := w64' (by omega) (by omega)
    have j3 : ∀ b : Bool, (b = true ↔ okP p = true ∧ okP q = true) → arraslaw3_PointSums.j3 (k + 2) l (i : Int) (j : Int) p q b = some true := by
      intro b hb
      simp only [arraslaw3_PointSums.j3]
      rw [add_eq p q (by omega), Option.bind_some, sub_eq p q (by omega), Option.bind_some]
      by_cases c : b = true
      · obtain ⟨h1, h2⟩ := hb.1 c
        subst c
        rw [if_pos rfl, if_pos ⟨h1, h2⟩, if_pos ⟨h1, h2⟩, refAdd_eq h1 h2, Option.bind_some, refSub_eq h1 h2, Option.bind_some]
        simp only [arraslaw3_PointSums.j4]
        rw [told_yes (cd_sat _) (cd_sat _), Option.bind_some, if_pos rfl, told_yes (cd_sat _) (cd_sat _), Option.bind_some, if_pos rfl, hw]
        exact n
      · have c' : b = false := by simpa using c
        have hno := mt hb.2 c
        subst c'
        rw [if_neg (by simp), if_neg hno, if_neg hno]
        simp only [arraslaw3_PointSums.j4]
        rw [told_no, Option.bind_some, if_pos rfl, Option.bind_some, if_pos rfl, hw]
        exact n
    simp only [arraslaw3_PointSums.l1]
    rw [if_pos (by omega), if_pos (by omega), if_pos (by omega), rd_T l i hi, e0, Option.bind_some, hw, e1, Option.bind_some, Point_eq, Option.bind_some]
    by_cases h1 : okP p = true
    · rw [if_pos h1, Point_eq, Option.bind_some]
      exact j3 _ ⟨fun h => ⟨h1, h⟩, fun h => h.2⟩
    · rw [if_neg h1]
      exact j3 _ ⟨fun h => (by cases h), fun h => absurd h.1 h1⟩
theorem body (l : List S26) (i : Nat) (hi : i < l.length) (h12 : i < 12) (K : Nat) (hn : ∀ k, K ≤ k → arraslaw3_PointSums.l0 k l ((i : Int) + 1) = some true) : ∃ K', ∀ k, K' ≤ k → arraslaw3_PointSums.l0 k l (i : Int) = some true := by
  refine ⟨K + 200, fun k hk => ?_⟩
  obtain ⟨k, rfl⟩ : ∃ m, k = m + 2 := ⟨k - 2, by omega⟩
  simp only [arraslaw3_PointSums.l0]
  rw [if_pos (by omega)]
  simp only [arraslaw3_PointSums.j1]
  rw [if_pos (by simp; omega)]
  exact inner l i hi h12 K hn 4 0 rfl (by omega) k (by omega)
theorem loop (l : List S26) : ∀ (d i : Nat), 12 - i = d → i ≤ 12 → ∃ K, ∀ k, K ≤ k → arraslaw3_PointSums.l0 k l (i : Int) = some true := by
  intro d
  induction d with
  | zero => exact fun i hd hi => ⟨80, fin l i (by omega)⟩
  | succ d ih =>
    intro i hd hi
    by_cases c : i < l.length
    · obtain ⟨K, hK⟩ := ih (i + 1) (by omega) (by omega)
      exact body l i c (by omega) K (fun k hk => by have := hK k hk; rw [Int.natCast_add, Int.natCast_one] at this; exact this)
    · exact ⟨80, fin l i (by omega)⟩

/-- The law, over numbers and lists. -/
theorem pure : Pure := fun l _ => by
  obtain ⟨K, hK⟩ := loop l 12 0 rfl (by omega)
  exact ⟨K, hK K (Nat.le_refl _)⟩
end Go.Proofs.Ytdpeeinmckohgaa.TPointSums
