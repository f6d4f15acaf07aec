/- The pure statement of PointNumbers: a made point has its coordinates, the parts are its halves, turned the halves change places, or each is refused. -/
import Derived.Test.YtdpeeinmckohgaaTellPointNumbers
import Derived.Test.YtdpeeinmckohgaaPointsAD
namespace Go.Proofs.Ytdpeeinmckohgaa.TPointNumbers
open Go.RowKit Go.Proofs.YtdpeeinmckohgaaW.PrintWords Go.Proofs.Ytdpeeinmckohgaa.PD Go.Proofs.Ytdpeeinmckohgaa.F64

theorem rd_T (l : List S26) (i : Nat) (h : i < l.length) : rd_T26 l (i : Int) = l[i] := by simp [rd_T26, List.getD_eq_getElem?_getD, h]
theorem fin (l : List S26) (i : Nat) (h : ¬ (i < l.length ∧ i < 12)) : ∀ k, 80 ≤ k → arraslaw3_PointNumbers.l0 k l (i : Int) = some true := by
  intro k hk
  obtain ⟨k, rfl⟩ : ∃ m, k = m + 2 := ⟨k - 2, by omega⟩
  simp only [arraslaw3_PointNumbers.l0]
  by_cases c : (i : Int) < (l.length : Int)
  · rw [if_pos c]
    simp only [arraslaw3_PointNumbers.j1]
    rw [if_neg (by simp; omega), pwakes k (by omega)]
    rfl
  · rw [if_neg c]
    simp only [arraslaw3_PointNumbers.j1]
    rw [if_neg (by simp), pwakes k (by omega)]
    rfl
/-- The corners' loop, over the record. -/
def L1 (k : Nat) (l : List S26) (i j : Int) (s : S26) : Option Bool := arraslaw3_PointNumbers.l1 k l i j s.f0 s.f1 s.f2.f0 s.f2.f1 s.f2.f2 s.f2.f3 s.f2.f4 s.f2.f5 s.f2.f6 s.f2.f7
theorem inner (l : List S26) (i : Nat) (s : S26) (h12 : i < 12) (K : Nat) (hn : ∀ k, K ≤ k → arraslaw3_PointNumbers.l0 k l ((i : Int) + 1) = some true) : ∀ (d j : Nat), 4 - j = d → j ≤ 4 → ∀ k, K + 100 + 4 * d ≤ k → L1 k l (i : Int) (j : Int) s = some true := by
  have hwi : wrap64 ((i : Int) + 1) = (i : Int) + 1 := w64' (by omega) (by omega)
  intro d
  induction d with
  | zero =>
    intro j hd hj k hk
    obtain ⟨k, rfl⟩ : ∃ m, k = m + 3 := ⟨k - 3, by omega⟩
    obtain rfl : j = 4 := by omega
    unfold L1
    rw [arraslaw3_PointNumbers.l1, if_neg (by omega), hwi]
    exact hn _ (by omega)
  | succ d ih =>
    intro j hd hj k hk
    obtain ⟨k, rfl⟩ : ∃ m, k = m + 3 := ⟨k - 3, by omega⟩
    have hj4 : j < 4 := by omega
    have n := fun k hk => ih (j + 1) (by omega) (by omega) k hk
    have e5 : ((j + 1 : Nat) : Int) = (j : Int) + 1 := by omega
    rw [e5] at n
    have e0 := c_eq s j hj4
    obtain ⟨p, hp⟩ : ∃ p, p = cc s j := ⟨_, rfl⟩
    rw [← hp] at e0
    have hw : wrap64 ((j : Int) + 1) = (j : Int) + 1 := w64' (by omega) (by omega)
    unfold L1
    rw [arraslaw3_PointNumbers.l1, if_pos (by omega), e0, Option.bind_some, parts_eq p (by omega), Option.bind_some, Option.bind_some, turn_eq p (by omega), Option.bind_some, Option.bind_some, Point_eq, Option.bind_some]
    by_cases h : okP p = true
    · have cp := okP_cd h
      rw [if_pos h, if_pos h, if_pos h, arraslaw3_num.f, Option.bind_some, if_pos rfl, Option.bind_some, X_eq h, Option.bind_some, if_pos rfl, Option.bind_some, Y_eq h, Option.bind_some, if_pos rfl, refOf_eq, Option.bind_some, told_yes cp.2.1 cp.1, Option.bind_some]
      rw [arraslaw3_PointNumbers.j6, if_neg (by simp), hw]
      exact n _ (by omega)
    · rw [if_neg h, if_neg h, if_neg h, arraslaw3_num.f, Option.bind_some, if_pos rfl, if_pos rfl, if_pos rfl]
      rw [Option.bind_some]
      rw [arraslaw3_PointNumbers.j5, if_neg (by simp), hw]
      exact n _ (by omega)
theorem body (l : List S26) (i : Nat) (hi : i < l.length) (h12 : i < 12) (K : Nat) (hn : ∀ k, K ≤ k → arraslaw3_PointNumbers.l0 k l ((i : Int) + 1) = some true) : ∃ K', ∀ k, K' ≤ k → arraslaw3_PointNumbers.l0 k l (i : Int) = some true := by
  refine ⟨K + 200, fun k hk => ?_⟩
  obtain ⟨k, rfl⟩ : ∃ m, k = m + 4 := ⟨k - 4, by omega⟩
  have inn := inner l i l[i] h12 K hn 4 0 rfl (by omega) k (by omega)
  unfold L1 at inn
  rw [Int.natCast_zero] at inn
  have tail : arraslaw3_PointNumbers.j2 (k + 2) l (i : Int) (decide (Cd l[i].f0 ∧ Cd l[i].f1)) l[i].f0 l[i].f1 l[i].f2.f0 l[i].f2.f1 l[i].f2.f2 l[i].f2.f3 l[i].f2.f4 l[i].f2.f5 l[i].f2.f6 l[i].f2.f7 = some true := by
    rw [arraslaw3_PointNumbers.j2, of_eq, Option.bind_some]
    by_cases h : Cd l[i].f0 ∧ Cd l[i].f1
    · rw [if_pos h, if_pos (decide_eq_true h), refOf_eq, Option.bind_some, decide_eq_true h, told_yes h.1 h.2, Option.bind_some, if_pos rfl, arraslaw3_PointNumbers.j3, if_neg (by simp)]
      exact inn
    · rw [if_neg h, decide_eq_false h, if_neg (by simp), told_no, Option.bind_some, arraslaw3_PointNumbers.j3, if_neg (by simp)]
      exact inn
  rw [arraslaw3_PointNumbers.l0, if_pos (by omega), arraslaw3_PointNumbers.j1, if_pos (by simp; omega), if_pos (by omega), if_pos (by omega), rd_T l i hi, coord_eq, Option.bind_some]
  by_cases h : Cd l[i].f0
  · rw [if_pos (decide_eq_true h), coord_eq, Option.bind_some]
    have e : decide (Cd l[i].f1) = decide (Cd l[i].f0 ∧ Cd l[i].f1) := by simp [h]
    rw [e]
    exact tail
  · rw [if_neg (by simp [h])]
    have e : false = decide (Cd l[i].f0 ∧ Cd l[i].f1) := by simp [h]
    rw [e]
    exact tail
theorem loop (l : List S26) : ∀ (d i : Nat), 12 - i = d → i ≤ 12 → ∃ K, ∀ k, K ≤ k → arraslaw3_PointNumbers.l0 k l (i : Int) = some true := by
  intro d
  induction d with
  | zero => exact fun i hd hi => ⟨80, fin l i (by omega)⟩
  | succ d ih =>
    intro i hd hi
    by_cases c : i < l.length
    · obtain ⟨K, hK⟩ := ih (i + 1) (by omega) (by omega)
      exact body l i c (by omega) K (fun k hk => by have := hK k hk; rw [Int.natCast_add, Int.natCast_one] at this; exact this)
    · exact ⟨80, fin l i (by omega)⟩

/-- The law, over numbers and lists. -/
theorem pure : Pure := fun l _ => by
  obtain ⟨K, hK⟩ := loop l 12 0 rfl (by omega)
  exact ⟨K, hK K (Nat.le_refl _)⟩
end Go.Proofs.Ytdpeeinmckohgaa.TPointNumbers
