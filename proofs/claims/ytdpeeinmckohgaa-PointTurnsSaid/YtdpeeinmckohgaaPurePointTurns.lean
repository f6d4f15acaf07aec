/- The pure statement of PointTurns: turned twice any point is itself; sums and differences go back where nothing is brought within; added the other way round it is the same. -/
import Derived.Test.YtdpeeinmckohgaaTellPointTurns
import Derived.Test.YtdpeeinmckohgaaPointsAC
import Derived.Test.YtdpeeinmckohgaaFloatAdd
import Derived.Test.YtdpeeinmckohgaaWithinC
namespace Go.Proofs.Ytdpeeinmckohgaa.TPointTurns
open Go.RowKit Go.Proofs.YtdpeeinmckohgaaW.PrintWords Go.Proofs.Ytdpeeinmckohgaa.PC Go.Proofs.Ytdpeeinmckohgaa.F64

theorem rd_T (l : List S26) (i : Nat) (h : i < l.length) : rd_T26 l (i : Int) = l[i] := by simp [rd_T26, List.getD_eq_getElem?_getD, h]
theorem fin (l : List S26) (i : Nat) (h : ¬ (i < l.length ∧ i < 12)) : ∀ k, 80 ≤ k → arraslaw3_PointTurns.l0 k l (i : Int) = some true := by
  intro k hk
  obtain ⟨k, rfl⟩ : ∃ m, k = m + 2 := ⟨k - 2, by omega⟩
  simp only [arraslaw3_PointTurns.l0]
  by_cases c : (i : Int) < (l.length : Int)
  · rw [if_pos c]
    simp only [arraslaw3_PointTurns.j1]
    rw [if_neg (by simp; omega), pwakes k (by omega)]
    rfl
  · rw [if_neg c]
    simp only [arraslaw3_PointTurns.j1]
    rw [if_neg (by simp), pwakes k (by omega)]
    rfl
theorem tmod4 (j : Nat) (h : j < 4) : Int.tmod ((j : Int) + 1) 4 = ((if j = 3 then 0 else j + 1 : Nat) : Int) := by
  match j, h with
  | 0, _ => rfl
  | 1, _ => rfl
  | 2, _ => rfl
  | 3, _ => rfl
theorem same {x y : Int} (hx : Cd x) (hy : Cd y) : (feq (fOf x) (fOf x) && feq (fOf y) (fOf y)) = true := by
  simp only [feq_refl hx, feq_refl hy, Bool.and_true]
theorem sat_id {n : Int} (h : Cd n) : sat n = n := by
  unfold Cd at h
  unfold sat
  rw [if_neg (by omega), if_neg (by omega)]
theorem last (l : List S26) (i : Nat) (hi : i < l.length) (h12 : i < 12) (K : Nat) (hn : ∀ k, K ≤ k → arraslaw3_PointTurns.l0 k l ((i : Int) + 1) = some true) : ∀ k, K + 50 ≤ k → arraslaw3_PointTurns.l1 k l (i : Int) 4 = some true := by
  intro k hk
  obtain ⟨k, rfl⟩ : ∃ m, k = m + 2 := ⟨k - 2, by omega⟩
  have hw : wrap64 ((i : Int) + 1) = (i : Int) + 1 := w64' (by omega) (by omega)
  obtain ⟨x, hx⟩ : ∃ x, x = wthn l[i].f0 1073741824 := ⟨_, rfl⟩
  obtain ⟨y, hy⟩ : ∃ y, y = wthn l[i].f1 1073741824 := ⟨_, rfl⟩
  have bx := wthn_bd l[i].f0 1073741824 (by omega) (by omega)
  have by' := wthn_bd l[i].f1 1073741824 (by omega) (by omega)
  have ex := within_eq l[i].f0 1073741824 (by omega) (by omega)
  have ey := within_eq l[i].f1 1073741824 (by omega) (by omega)
  rw [← hx] at bx ex
  rw [← hy] at by' ey
  have cx : Cd x := by unfold Cd; omega
  have cy : Cd y := by unfold Cd; omega
  have cn : Cd (-y) := by unfold Cd; omega
  have c1 : Cd (x + -y) := by unfold Cd; omega
  have c2 : Cd (y + x) := by unfold Cd; omega
  have o1 := okP_pt cx cy
  have o2 := okP_pt cn cx
  have o3 := okP_pt c1 c2
  have ea := add_eq (pt x y) (pt (-y) x) (k := k + 1) (by omega)
  rw [if_pos ⟨o1, o2⟩, X_pt cx, X_pt cn, Y_pt cy, Y_pt cx, sat_id c1, sat_id c2] at ea
  have es := sub_eq (pt (x + -y) (y + x)) (pt (-y) x) (k := k + 1) (by omega)
  have e3 : x + -y - -y = x := by omega
  have e4 : y + x - x = y := by omega
  rw [if_pos ⟨o3, o2⟩, X_pt c1, X_pt cn, Y_pt c2, Y_pt cx, e3, e4, sat_id cx, sat_id cy] at es
  have a1 := fAdd_of cx.ok cn.ok c1.ok
  have a2 := fAdd_of cy.ok cx.ok c2.ok
  simp only [arraslaw3_PointTurns.l1]
  rw [if_neg (by omega), if_pos (by omega), if_pos (by omega), rd_T l i hi, ex, Option.bind_some, ey, Option.bind_some, of_eq, if_pos ⟨cx, cy⟩, Option.bind_some, Option.bind_some, Option.bind_some]
  rw [w64' (n := -y) (by omega) (by omega), of_eq, if_pos ⟨cn, cx⟩, Option.bind_some, ea, Option.bind_some, es, Option.bind_some]
  simp only [arraslaw3_num.f]
  rw [Option.bind_some, if_pos rfl, Option.bind_some, if_pos rfl, Option.bind_some, if_pos rfl, Option.bind_some, if_pos rfl]
  have p1 : (pt x y).1 = fOf x := rfl
  have p2 : (pt x y).2 = fOf y := rfl
  have p3 : (pt (-y) x).1 = fOf (-y) := rfl
  have p4 : (pt (-y) x).2 = fOf x := rfl
  have p5 : (pt (x + -y) (y + x)).1 = fOf (x + -y) := rfl
  have p6 : (pt (x + -y) (y + x)).2 = fOf (y + x) := rfl
  rw [p1, p2, p3, p4, p5, p6, if_pos (same cx cy), if_pos a1.1, if_pos a2.1, a1.2, a2.2, if_pos (same c1 c2), Point_eq, o3, Option.bind_some]
  rw [arraslaw3_PointTurns.j5, if_neg (by simp), hw]
  exact hn _ (by omega)
theorem inner (l : List S26) (i : Nat) (hi : i < l.length) (h12 : i < 12) (K : Nat) (hn : ∀ k, K ≤ k → arraslaw3_PointTurns.l0 k l ((i : Int) + 1) = some true) : ∀ (d j : Nat), 4 - j = d → j ≤ 4 → ∀ k, K + 100 + 4 * d ≤ k → arraslaw3_PointTurns.l1 k l (i : Int) (j : Int) = some true := by
  intro d
  induction d with
  | zero =>
    intro j hd hj k hk
    obtain rfl : j = 4 := by omega
    exact last l i hi h12 K hn k (by omega)
  | succ d ih =>
    intro j hd hj k hk
    obtain ⟨k, rfl⟩ : ∃ m, k = m + 3 := ⟨k - 3, by omega⟩
    have hj4 : j < 4 := by omega
    have n := fun k hk => ih (j + 1) (by omega) (by omega) k hk
    have e5 : ((j + 1 : Nat) : Int) = (j : Int) + 1 := by omega
    rw [e5] at n
    have e0 := c_eq l[i] j hj4
    have e1 := c_eq l[i] (if j = 3 then 0 else j + 1) (by split <;> omega)
    rw [← tmod4 j hj4] at e1
    obtain ⟨p, hp⟩ : ∃ p, p = cc l[i] j := ⟨_, rfl⟩
    obtain ⟨q, hq⟩ : ∃ q, q = cc l[i] (if j = 3 then 0 else j + 1) := ⟨_, rfl⟩
    rw [← hp] at e0
    rw [← hq] at e1
    have hw : wrap64 ((j : Int) + 1) = (j : Int) + 1 := w64' (by omega) (by omega)
    rw [arraslaw3_PointTurns.l1, if_pos (by omega), if_pos (by omega), if_pos (by omega), rd_T l i hi, e0, Option.bind_some, hw, e1, Option.bind_some, turn_eq p (by omega), Option.bind_some]
    by_cases h : okP p = true
    · have cp := okP_cd h
      have o1 := okP_pt cp.2.1 cp.1
      rw [if_pos h, arraslaw3_num.f, Option.bind_some, if_pos rfl, turn_eq _ (by omega), if_pos o1, Option.bind_some, arraslaw3_num.f, Option.bind_some, if_pos rfl, X_pt cp.2.1, Y_pt cp.1]
      have p1 : (pt (X p) (Y p)).1 = fOf (X p) := rfl
      have p2 : (pt (X p) (Y p)).2 = fOf (Y p) := rfl
      have p3 : (pt (Y p) (X p)).1 = fOf (Y p) := rfl
      have p4 : (pt (Y p) (X p)).2 = fOf (X p) := rfl
      rw [p1, p2, p3, p4, cp.2.2.1, cp.2.2.2, Bool.and_self, if_pos rfl, if_pos rfl]
      rw [arraslaw3_PointTurns.j3, if_neg (by simp), add_eq p q (by omega), Option.bind_some, add_eq q p (by omega), Option.bind_some]
      rw [arraslaw3_num.f, Option.bind_some, arraslaw3_num.f, Option.bind_some]
      by_cases h2 : okP q = true
      · have cq := okP_cd h2
        rw [if_pos (show okP p = true ∧ okP q = true from ⟨h, h2⟩), if_pos (show okP q = true ∧ okP p = true from ⟨h2, h⟩), if_pos rfl, Int.add_comm (X q), Int.add_comm (Y q)]
        have p5 : (pt (sat (X p + X q)) (sat (Y p + Y q))).1 = fOf (sat (X p + X q)) := rfl
        have p6 : (pt (sat (X p + X q)) (sat (Y p + Y q))).2 = fOf (sat (Y p + Y q)) := rfl
        rw [p5, p6, same (cd_sat _) (cd_sat _)]
        rw [arraslaw3_PointTurns.j4, if_neg (by simp), hw]
        exact n _ (by omega)
      · rw [if_neg (show ¬ (okP p = true ∧ okP q = true) from fun h' => h2 h'.2), if_neg (show ¬ (okP q = true ∧ okP p = true) from fun h' => h2 h'.1), if_pos rfl]
        rw [feq00, Bool.and_self, arraslaw3_PointTurns.j4, if_neg (by simp), hw]
        exact n _ (by omega)
    · rw [if_neg h, arraslaw3_num.f, Option.bind_some, if_neg (by omega)]
      exact n _ (by omega)
theorem body (l : List S26) (i : Nat) (hi : i < l.length) (h12 : i < 12) (K : Nat) (hn : ∀ k, K ≤ k → arraslaw3_PointTurns.l0 k l ((i : Int) + 1) = some true) : ∃ K', ∀ k, K' ≤ k → arraslaw3_PointTurns.l0 k l (i : Int) = some true := by
  refine ⟨K + 200, fun k hk => ?_⟩
  obtain ⟨k, rfl⟩ : ∃ m, k = m + 2 := ⟨k - 2, by omega⟩
  simp only [arraslaw3_PointTurns.l0]
  rw [if_pos (by omega)]
  simp only [arraslaw3_PointTurns.j1]
  rw [if_pos (by simp; omega)]
  exact inner l i hi h12 K hn 4 0 rfl (by omega) k (by omega)
theorem loop (l : List S26) : ∀ (d i : Nat), 12 - i = d → i ≤ 12 → ∃ K, ∀ k, K ≤ k → arraslaw3_PointTurns.l0 k l (i : Int) = some true := by
  intro d
  induction d with
  | zero => exact fun i hd hi => ⟨80, fin l i (by omega)⟩
  | succ d ih =>
    intro i hd hi
    by_cases c : i < l.length
    · obtain ⟨K, hK⟩ := ih (i + 1) (by omega) (by omega)
      exact body l i c (by omega) K (fun k hk => by have := hK k hk; rw [Int.natCast_add, Int.natCast_one] at this; exact this)
    · exact ⟨80, fin l i (by omega)⟩

/-- The law, over numbers and lists. -/
theorem pure : Pure := fun l _ => by
  obtain ⟨K, hK⟩ := loop l 12 0 rfl (by omega)
  exact ⟨K, hK K (Nat.le_refl _)⟩
end Go.Proofs.Ytdpeeinmckohgaa.TPointTurns
