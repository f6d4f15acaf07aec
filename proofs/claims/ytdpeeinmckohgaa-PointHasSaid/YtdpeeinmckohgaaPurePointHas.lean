/- The pure statement of PointHas: whether any box has any point is the page's, or refused. -/
import Derived.Test.YtdpeeinmckohgaaTellPointHas
import Derived.Test.YtdpeeinmckohgaaPointsFB
namespace Go.Proofs.Ytdpeeinmckohgaa.TPointHas
open Go.RowKit Go.Proofs.YtdpeeinmckohgaaW.PrintWords Go.Proofs.Ytdpeeinmckohgaa.PB

theorem rd_T (l : List S26) (i : Nat) (h : i < l.length) : rd_T26 l (i : Int) = l[i] := by simp [rd_T26, List.getD_eq_getElem?_getD, h]
theorem fin (l : List S26) (i : Nat) (h : ¬ (i < l.length ∧ i < 12)) : ∀ k, 80 ≤ k → arraslaw3_PointHas.l0 k l (i : Int) = some true := by
  intro k hk
  obtain ⟨k, rfl⟩ : ∃ m, k = m + 2 := ⟨k - 2, by omega⟩
  simp only [arraslaw3_PointHas.l0]
  by_cases c : (i : Int) < (l.length : Int)
  · rw [if_pos c]
    simp only [arraslaw3_PointHas.j1]
    rw [if_neg (by simp; omega), pwakes k (by omega)]
    rfl
  · rw [if_neg c]
    simp only [arraslaw3_PointHas.j1]
    rw [if_neg (by simp), pwakes k (by omega)]
    rfl
theorem body (l : List S26) (i : Nat) (hi : i < l.length) (h12 : i < 12) (K : Nat) (hn : ∀ k, K ≤ k → arraslaw3_PointHas.l0 k l ((i : Int) + 1) = some true) : ∃ K', ∀ k, K' ≤ k → arraslaw3_PointHas.l0 k l (i : Int) = some true := by
  have hw : wrap64 ((i : Int) + 1) = (i : Int) + 1 := w64' (by omega) (by omega)
  have e0 := c_eq l[i] 0 (by omega)
  have e1 := c_eq l[i] 1 (by omega)
  have e2 := c_eq l[i] 2 (by omega)
  refine ⟨K + 100, fun k hk => ?_⟩
  obtain ⟨k, rfl⟩ : ∃ m, k = m + 4 := ⟨k - 4, by omega⟩
  have j3 : ∀ (b : Bool) (e : Int), (b, e) = (if okB (cc l[i] 0) (cc l[i] 1) = true ∧ okP (cc l[i] 2) = true then (hasS (cc l[i] 0) (cc l[i] 1) (cc l[i] 2), 0) else (false, 1)) → arraslaw3_PointHas.j3 (k + 1) l (i : Int) (cc l[i] 0) (cc l[i] 1) (cc l[i] 2) e b = some true := by
    intro b e h
    simp only [arraslaw3_PointHas.j3]
    rw [has_eq _ _ _ (by omega), Option.bind_some, ← h]
    simp only [arraslaw3_num.f]
    rw [Option.bind_some, if_pos rfl, if_neg (by simp), hw]
    exact hn k (by omega)
  simp only [arraslaw3_PointHas.l0]
  rw [if_pos (by omega)]
  simp only [arraslaw3_PointHas.j1]
  rw [if_pos (by simp; omega), if_pos (by omega), if_pos (by omega), rd_T l i hi]
  have g0 : ((0 : Nat) : Int) = 0 := rfl
  have g1 : ((1 : Nat) : Int) = 1 := rfl
  have g2 : ((2 : Nat) : Int) = 2 := rfl
  rw [g0] at e0
  rw [g1] at e1
  rw [g2] at e2
  rw [e0, Option.bind_some, e1, Option.bind_some, e2, Option.bind_some, box_eq, Option.bind_some]
  by_cases hb : okB (cc l[i] 0) (cc l[i] 1) = true
  · rw [if_pos hb, Point_eq, Option.bind_some]
    simp only [arraslaw3_PointHas.j2]
    by_cases hp : okP (cc l[i] 2) = true
    · rw [if_pos hp, refHas_eq hb hp, Option.bind_some]
      exact j3 _ _ (by rw [if_pos ⟨hb, hp⟩])
    · rw [if_neg hp]
      exact j3 _ _ (by rw [if_neg (fun h => hp h.2)])
  · rw [if_neg hb]
    simp only [arraslaw3_PointHas.j2]
    rw [if_neg (by simp)]
    exact j3 _ _ (by rw [if_neg (fun h => hb h.1)])
theorem loop (l : List S26) : ∀ (d i : Nat), 12 - i = d → i ≤ 12 → ∃ K, ∀ k, K ≤ k → arraslaw3_PointHas.l0 k l (i : Int) = some true := by
  intro d
  induction d with
  | zero => exact fun i hd hi => ⟨80, fin l i (by omega)⟩
  | succ d ih =>
    intro i hd hi
    by_cases c : i < l.length
    · obtain ⟨K, hK⟩ := ih (i + 1) (by omega) (by omega)
      exact body l i c (by omega) K (fun k hk => by have := hK k hk; rw [Int.natCast_add, Int.natCast_one] at this; exact this)
    · exact ⟨80, fin l i (by omega)⟩

/-- The law, over numbers and lists. -/
theorem pure : Pure := fun l _ => by
  obtain ⟨K, hK⟩ := loop l 12 0 rfl (by omega)
  exact ⟨K, hK K (Nat.le_refl _)⟩
end Go.Proofs.Ytdpeeinmckohgaa.TPointHas
