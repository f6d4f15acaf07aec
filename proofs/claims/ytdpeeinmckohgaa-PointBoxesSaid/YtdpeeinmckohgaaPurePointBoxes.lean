/- The pure statement of PointBoxes: the least box with any two in it, and what both have, are the page's, or refused. -/
import Derived.Test.YtdpeeinmckohgaaTellPointBoxes
import Derived.Test.YtdpeeinmckohgaaPointsGC
namespace Go.Proofs.Ytdpeeinmckohgaa.TPointBoxes
open Go.RowKit Go.Proofs.YtdpeeinmckohgaaW.PrintWords Go.Proofs.Ytdpeeinmckohgaa.PC

theorem rd_T (l : List S26) (i : Nat) (h : i < l.length) : rd_T26 l (i : Int) = l[i] := by simp [rd_T26, List.getD_eq_getElem?_getD, h]
theorem fin (l : List S26) (i : Nat) (h : ¬ (i < l.length ∧ i < 12)) : ∀ k, 80 ≤ k → arraslaw3_PointBoxes.l0 k l (i : Int) = some true := by
  intro k hk
  obtain ⟨k, rfl⟩ : ∃ m, k = m + 2 := ⟨k - 2, by omega⟩
  simp only [arraslaw3_PointBoxes.l0]
  by_cases c : (i : Int) < (l.length : Int)
  · rw [if_pos c]
    simp only [arraslaw3_PointBoxes.j1]
    rw [if_neg (by simp; omega), pwakes k (by omega)]
    rfl
  · rw [if_neg c]
    simp only [arraslaw3_PointBoxes.j1]
    rw [if_neg (by simp), pwakes k (by omega)]
    rfl
theorem same {x y : Int} (hx : Cd x) (hy : Cd y) : (feq (pt x y).1 (pt x y).1 && feq (pt x y).2 (pt x y).2) = true := by
  unfold pt
  simp only [feq_refl hx, feq_refl hy, Bool.and_true]
theorem body (l : List S26) (i : Nat) (hi : i < l.length) (h12 : i < 12) (K : Nat) (hn : ∀ k, K ≤ k → arraslaw3_PointBoxes.l0 k l ((i : Int) + 1) = some true) : ∃ K', ∀ k, K' ≤ k → arraslaw3_PointBoxes.l0 k l (i : Int) = some true := by
  have hw : wrap64 ((i : Int) + 1) = (i : Int) + 1 := w64' (by omega) (by omega)
  have e0 := c_eq l[i] 0 (by omega)
  have e1 := c_eq l[i] 1 (by omega)
  have e2 := c_eq l[i] 2 (by omega)
  have e3 := c_eq l[i] 3 (by omega)
  have g0 : ((0 : Nat) : Int) = 0 := rfl
  have g1 : ((1 : Nat) : Int) = 1 := rfl
  have g2 : ((2 : Nat) : Int) = 2 := rfl
  have g3 : ((3 : Nat) : Int) = 3 := rfl
  rw [g0] at e0
  rw [g1] at e1
  rw [g2] at e2
  rw [g3] at e3
  obtain ⟨a, ha⟩ : ∃ a, a = cc l[i] 0 := ⟨_, rfl⟩
  obtain ⟨s, hs⟩ : ∃ a, a = cc l[i] 1 := ⟨_, rfl⟩
  obtain ⟨b, hb⟩ : ∃ a, a = cc l[i] 2 := ⟨_, rfl⟩
  obtain ⟨t, ht⟩ : ∃ a, a = cc l[i] 3 := ⟨_, rfl⟩
  rw [← ha] at e0
  rw [← hs] at e1
  rw [← hb] at e2
  rw [← ht] at e3
  refine ⟨K + 100, fun k hk => ?_⟩
  obtain ⟨k, rfl⟩ : ∃ m, k = m + 4 := ⟨k - 4, by omega⟩
  simp only [arraslaw3_PointBoxes.l0]
  rw [if_pos (by omega)]
  simp only [arraslaw3_PointBoxes.j1]
  rw [if_pos (by simp; omega), if_pos (by omega), if_pos (by omega), rd_T l i hi, e0, Option.bind_some, e1, Option.bind_some, e2, Option.bind_some, e3, Option.bind_some]
  rw [join_eq a s b t (by omega), Option.bind_some, meet_eq a s b t (by omega), Option.bind_some, box_eq, Option.bind_some]
  have no : ¬ (okB a s = true ∧ okB b t = true) → arraslaw3_PointBoxes.j2 (k + 2) l (i : Int) a s b t (((0, 0) : C128)) (((0, 0) : C128)) 1 (((0, 0) : C128)) (((0, 0) : C128)) 1 true = some true := by
    intro _
    simp only [arraslaw3_PointBoxes.j2, arraslaw3_num.f]
    rw [if_pos trivial, Option.bind_some, if_pos rfl, Option.bind_some, if_pos rfl, hw]
    exact hn _ (by omega)
  by_cases h1 : okB a s = true
  · rw [if_pos h1, box_eq, Option.bind_some]
    by_cases h2 : okB b t = true
    · obtain ⟨x, y, u, v, cx, cy, cu, cv, hm⟩ := meet_pts h1 h2
      have b1 := okB_cd h1
      have b2 := okB_cd h2
      have cl := cd_mn b1.1 b2.1
      have cu2 := cd_mn b1.2.1 b2.2.1
      rw [if_pos ⟨h1, h2⟩, if_pos ⟨h1, h2⟩, h2, hm]
      simp only [arraslaw3_PointBoxes.j2, arraslaw3_num.f, Bool.not_true]
      rw [if_neg (by simp), refJoin_eq h1 h2, Option.bind_some, refMeet_eq h1 h2, Option.bind_some, Option.bind_some, if_pos rfl, Option.bind_some, if_pos rfl, hm]
      dsimp only
      rw [if_pos (same (x := jl a b) (y := ju a b) cl cu2), if_pos (same (x := jw a s b t) (y := jh a s b t) (cd_sat _) (cd_sat _)), if_pos (same cx cy), if_pos (same cu cv)]
      rw [show arraslaw3_clean.f (pt (jl a b) (ju a b)) = some true from clean_eq cl cu2, Option.bind_some, if_pos rfl, show arraslaw3_clean.f (pt (jw a s b t) (jh a s b t)) = some true from clean_eq (cd_sat _) (cd_sat _), Option.bind_some, if_pos rfl, clean_eq cx cy, Option.bind_some, if_pos rfl, clean_eq cu cv, Option.bind_some, if_pos rfl, hw]
      exact hn _ (by omega)
    · have hb2 : okB b t = false := by simpa using h2
      have hno : ¬ (okB a s = true ∧ okB b t = true) := fun h => h2 h.2
      rw [if_neg hno, if_neg hno, hb2]
      exact no hno
  · have hno : ¬ (okB a s = true ∧ okB b t = true) := fun h => h1 h.1
    rw [if_neg h1, if_neg hno, if_neg hno]
    exact no hno
theorem loop (l : List S26) : ∀ (d i : Nat), 12 - i = d → i ≤ 12 → ∃ K, ∀ k, K ≤ k → arraslaw3_PointBoxes.l0 k l (i : Int) = some true := by
  intro d
  induction d with
  | zero => exact fun i hd hi => ⟨80, fin l i (by omega)⟩
  | succ d ih =>
    intro i hd hi
    by_cases c : i < l.length
    · obtain ⟨K, hK⟩ := ih (i + 1) (by omega) (by omega)
      exact body l i c (by omega) K (fun k hk => by have := hK k hk; rw [Int.natCast_add, Int.natCast_one] at this; exact this)
    · exact ⟨80, fin l i (by omega)⟩

/-- The law, over numbers and lists. -/
theorem pure : Pure := fun l _ => by
  obtain ⟨K, hK⟩ := loop l 12 0 rfl (by omega)
  exact ⟨K, hK K (Nat.le_refl _)⟩
end Go.Proofs.Ytdpeeinmckohgaa.TPointBoxes
