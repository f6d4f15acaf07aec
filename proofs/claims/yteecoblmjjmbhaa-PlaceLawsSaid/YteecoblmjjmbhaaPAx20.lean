-- Written by wprint.py, a program of this session's, over the kit's print.
import Derived.Test.YteecoblmjjmbhaaPAx0
import Derived.Test.YteecoblmjjmbhaaPAx2
import Derived.Test.YteecoblmjjmbhaaPAx3
import Derived.Test.YteecoblmjjmbhaaPAx4
import Derived.Test.YteecoblmjjmbhaaPAx5
import Derived.Test.YteecoblmjjmbhaaPAx10
namespace Go.Proofs.Yteecoblmjjmbhaa.PA
open Go.RowKit Go.Proofs.YteecoblmjjmbhaaW.PrintWords Go.Proofs.YteecoblmjjmbhaaW.PrintLast Go.Proofs.YteecoblmjjmbhaaW.PrintMore
attribute [local go_sem] max2_int min2_int max_two min_two max_three min_three max_four min_four   -- for this text's walks alone
set_option linter.unusedVariables false
set_option linter.unusedSimpArgs false

/-! ### pLaws: function 11 -/
mutual
def pLaws.l0 : Nat → List (S27) → Int → Option (Bool)
  | 0, _, _ => none
  | k + 1, x0, x3 => if x3 < (x0.length : Int) then (pLaws.j1 k x0 x3 (decide (x3 < 12))) else (pLaws.j1 k x0 x3 false)
def pLaws.j1 : Nat → List (S27) → Int → Bool → Option (Bool)
  | 0, _, _, _ => none
  | k + 1, x0, x3, x25 => if x25 = true then (pLaws.l1 k x0 x3 ([] : List Int) 0 0) else ((arrasref1_Coord.f 1).bind fun t218 => (if t218 = true then ((arraslaw21_wakes.f k).bind fun t219 => (some t219)) else (some false)))
def pLaws.l1 : Nat → List (S27) → Int → List Int → Int → Int → Option (Bool)
  | 0, _, _, _, _, _ => none
  | k + 1, x0, x3, x4, x5, x6 => if 0 ≤ x3 then (if x3 < (x0.length : Int) then (if x6 < (((rd_T27 x0 x3).f0).length : Int) then (pLaws.j3 k x0 x3 x4 x5 x6 (decide (x6 < 20))) else (pLaws.j3 k x0 x3 x4 x5 x6 false)) else (none)) else (none)
def pLaws.j3 : Nat → List (S27) → Int → List Int → Int → Int → Bool → Option (Bool)
  | 0, _, _, _, _, _, _ => none
  | k + 1, x0, x3, x4, x5, x6, x39 => if x39 = true then (if 0 ≤ x3 then (if x3 < (x0.length : Int) then (if 0 ≤ x6 then (if x6 < (((rd_T27 x0 x3).f0).length : Int) then ((arraslaw0_Within.f (rd ((rd_T27 x0 x3).f0) x6) 10000).bind fun t173 => (if x4.length < 17592186044416 then ((some (x4 ++ [t173] : List Int)).bind fun y174 => (if x6 < (y174.length : Int) then (pLaws.l1 k x0 x3 y174 (wrap64 (x5 + (rd y174 x6))) (wrap64 (x6 + 1))) else (none))) else (none))) else (none)) else (none)) else (none)) else (none)) else (if 0 ≤ x3 then (if x3 < (x0.length : Int) then ((arraslaw0_Within.f ((rd_T27 x0 x3).f1) 100).bind fun t179 => (if (x4.length : Int) = 0 then (pLaws.l0 k x0 (wrap64 (x3 + 1))) else ((arraslaw0_Within.f ((rd_T27 x0 x3).f2) 10000).bind fun t181 => (pLaws.l2 k x0 x3 x4 t179 (x4.length : Int) (wrap64 ((wrap64 (x5 + (wrap64 (t179 * (wrap64 ((x4.length : Int) - 1)))))) + t181)) 0)))) else (none)) else (none))
def pLaws.l2 : Nat → List (S27) → Int → List Int → Int → Int → Int → Int → Option (Bool)
  | 0, _, _, _, _, _, _, _ => none
  | k + 1, x0, x3, x4, x7, x8, x9, x10 => if x10 ≤ 4 then ((place_Justify.f k x4 x7 x9 x10).bind fun bt182 => ((arraslaw21_num.f bt182.2).bind fun t186 => (if t186 = 0 then (if (bt182.1.length : Int) = x8 then (if 0 < (bt182.1.length : Int) then (if (rd bt182.1 0) < 0 then (pLaws.j5 k x0 x3 x4 x7 x8 x9 x10 bt182.1 true) else (if 0 ≤ (wrap64 (x8 - 1)) then (if (wrap64 (x8 - 1)) < (bt182.1.length : Int) then (if (wrap64 (x8 - 1)) < (x4.length : Int) then (pLaws.j5 k x0 x3 x4 x7 x8 x9 x10 bt182.1 (decide ((wrap64 ((rd bt182.1 (wrap64 (x8 - 1))) + (rd x4 (wrap64 (x8 - 1))))) > x9))) else (none)) else (none)) else (none))) else (none)) else (pLaws.j5 k x0 x3 x4 x7 x8 x9 x10 bt182.1 true)) else (pLaws.j5 k x0 x3 x4 x7 x8 x9 x10 bt182.1 true)))) else (pLaws.l4 k x0 x3 x4 x9 0)
def pLaws.j5 : Nat → List (S27) → Int → List Int → Int → Int → Int → Int → List Int → Bool → Option (Bool)
  | 0, _, _, _, _, _, _, _, _, _ => none
  | k + 1, x0, x3, x4, x7, x8, x9, x10, x11, x125 => if x125 = true then (some false) else (pLaws.l3 k x0 x3 x4 x7 x8 x9 x10 x11 1)
def pLaws.l3 : Nat → List (S27) → Int → List Int → Int → Int → Int → Int → List Int → Int → Option (Bool)
  | 0, _, _, _, _, _, _, _, _, _ => none
  | k + 1, x0, x3, x4, x7, x8, x9, x10, x11, x13 => if x13 < x8 then (if 0 ≤ x13 then (if x13 < (x11.length : Int) then (if 0 ≤ (wrap64 (x13 - 1)) then (if (wrap64 (x13 - 1)) < (x11.length : Int) then (if (wrap64 (x13 - 1)) < (x4.length : Int) then (if (rd x11 x13) < (wrap64 ((wrap64 ((rd x11 (wrap64 (x13 - 1))) + (rd x4 (wrap64 (x13 - 1))))) + x7)) then (some false) else (pLaws.l3 k x0 x3 x4 x7 x8 x9 x10 x11 (wrap64 (x13 + 1)))) else (none)) else (none)) else (none)) else (none)) else (none)) else (if 0 ≤ (wrap64 (x8 - 1)) then (if (wrap64 (x8 - 1)) < (x11.length : Int) then (if (wrap64 (x8 - 1)) < (x4.length : Int) then (if x10 = 0 then (if 0 < (x11.length : Int) then (if (rd x11 0) = 0 then (if x10 = 1 then (if (wrap64 ((wrap64 (x9 - (rd x11 (wrap64 (x8 - 1))))) - (rd x4 (wrap64 (x8 - 1))))) = 0 then (if x10 = 2 then (if (wrap64 ((wrap64 (x9 - (rd x11 (wrap64 (x8 - 1))))) - (rd x4 (wrap64 (x8 - 1))))) < (rd x11 0) then (pLaws.j7 k x0 x3 x4 x7 x8 x9 x10 true) else (if (wrap64 ((wrap64 (x9 - (rd x11 (wrap64 (x8 - 1))))) - (rd x4 (wrap64 (x8 - 1))))) > (wrap64 ((rd x11 0) + 1)) then (pLaws.j7 k x0 x3 x4 x7 x8 x9 x10 true) else (if x10 = 3 then (if x8 > 1 then (pLaws.j7 k x0 x3 x4 x7 x8 x9 x10 (decide ((wrap64 ((wrap64 (x9 - (rd x11 (wrap64 (x8 - 1))))) - (rd x4 (wrap64 (x8 - 1))))) ≥ (wrap64 (x8 - 1))))) else (pLaws.j7 k x0 x3 x4 x7 x8 x9 x10 false)) else (pLaws.j7 k x0 x3 x4 x7 x8 x9 x10 false)))) else (if x10 = 3 then (if x8 > 1 then (pLaws.j7 k x0 x3 x4 x7 x8 x9 x10 (decide ((wrap64 ((wrap64 (x9 - (rd x11 (wrap64 (x8 - 1))))) - (rd x4 (wrap64 (x8 - 1))))) ≥ (wrap64 (x8 - 1))))) else (pLaws.j7 k x0 x3 x4 x7 x8 x9 x10 false)) else (pLaws.j7 k x0 x3 x4 x7 x8 x9 x10 false))) else (pLaws.j7 k x0 x3 x4 x7 x8 x9 x10 true)) else (if x10 = 2 then (if (wrap64 ((wrap64 (x9 - (rd x11 (wrap64 (x8 - 1))))) - (rd x4 (wrap64 (x8 - 1))))) < (rd x11 0) then (pLaws.j7 k x0 x3 x4 x7 x8 x9 x10 true) else (if (wrap64 ((wrap64 (x9 - (rd x11 (wrap64 (x8 - 1))))) - (rd x4 (wrap64 (x8 - 1))))) > (wrap64 ((rd x11 0) + 1)) then (pLaws.j7 k x0 x3 x4 x7 x8 x9 x10 true) else (if x10 = 3 then (if x8 > 1 then (pLaws.j7 k x0 x3 x4 x7 x8 x9 x10 (decide ((wrap64 ((wrap64 (x9 - (rd x11 (wrap64 (x8 - 1))))) - (rd x4 (wrap64 (x8 - 1))))) ≥ (wrap64 (x8 - 1))))) else (pLaws.j7 k x0 x3 x4 x7 x8 x9 x10 false)) else (pLaws.j7 k x0 x3 x4 x7 x8 x9 x10 false)))) else (if x10 = 3 then (if x8 > 1 then (pLaws.j7 k x0 x3 x4 x7 x8 x9 x10 (decide ((wrap64 ((wrap64 (x9 - (rd x11 (wrap64 (x8 - 1))))) - (rd x4 (wrap64 (x8 - 1))))) ≥ (wrap64 (x8 - 1))))) else (pLaws.j7 k x0 x3 x4 x7 x8 x9 x10 false)) else (pLaws.j7 k x0 x3 x4 x7 x8 x9 x10 false)))) else (pLaws.j7 k x0 x3 x4 x7 x8 x9 x10 true)) else (none)) else (if x10 = 1 then (if (wrap64 ((wrap64 (x9 - (rd x11 (wrap64 (x8 - 1))))) - (rd x4 (wrap64 (x8 - 1))))) = 0 then (if x10 = 2 then (if 0 < (x11.length : Int) then (if (wrap64 ((wrap64 (x9 - (rd x11 (wrap64 (x8 - 1))))) - (rd x4 (wrap64 (x8 - 1))))) < (rd x11 0) then (pLaws.j7 k x0 x3 x4 x7 x8 x9 x10 true) else (if (wrap64 ((wrap64 (x9 - (rd x11 (wrap64 (x8 - 1))))) - (rd x4 (wrap64 (x8 - 1))))) > (wrap64 ((rd x11 0) + 1)) then (pLaws.j7 k x0 x3 x4 x7 x8 x9 x10 true) else (if x10 = 3 then (if x8 > 1 then (if (rd x11 0) = 0 then (pLaws.j7 k x0 x3 x4 x7 x8 x9 x10 (decide ((wrap64 ((wrap64 (x9 - (rd x11 (wrap64 (x8 - 1))))) - (rd x4 (wrap64 (x8 - 1))))) ≥ (wrap64 (x8 - 1))))) else (pLaws.j7 k x0 x3 x4 x7 x8 x9 x10 true)) else (pLaws.j7 k x0 x3 x4 x7 x8 x9 x10 false)) else (pLaws.j7 k x0 x3 x4 x7 x8 x9 x10 false)))) else (none)) else (if x10 = 3 then (if x8 > 1 then (if 0 < (x11.length : Int) then (if (rd x11 0) = 0 then (pLaws.j7 k x0 x3 x4 x7 x8 x9 x10 (decide ((wrap64 ((wrap64 (x9 - (rd x11 (wrap64 (x8 - 1))))) - (rd x4 (wrap64 (x8 - 1))))) ≥ (wrap64 (x8 - 1))))) else (pLaws.j7 k x0 x3 x4 x7 x8 x9 x10 true)) else (none)) else (pLaws.j7 k x0 x3 x4 x7 x8 x9 x10 false)) else (pLaws.j7 k x0 x3 x4 x7 x8 x9 x10 false))) else (pLaws.j7 k x0 x3 x4 x7 x8 x9 x10 true)) else (if x10 = 2 then (if 0 < (x11.length : Int) then (if (wrap64 ((wrap64 (x9 - (rd x11 (wrap64 (x8 - 1))))) - (rd x4 (wrap64 (x8 - 1))))) < (rd x11 0) then (pLaws.j7 k x0 x3 x4 x7 x8 x9 x10 true) else (if (wrap64 ((wrap64 (x9 - (rd x11 (wrap64 (x8 - 1))))) - (rd x4 (wrap64 (x8 - 1))))) > (wrap64 ((rd x11 0) + 1)) then (pLaws.j7 k x0 x3 x4 x7 x8 x9 x10 true) else (if x10 = 3 then (if x8 > 1 then (if (rd x11 0) = 0 then (pLaws.j7 k x0 x3 x4 x7 x8 x9 x10 (decide ((wrap64 ((wrap64 (x9 - (rd x11 (wrap64 (x8 - 1))))) - (rd x4 (wrap64 (x8 - 1))))) ≥ (wrap64 (x8 - 1))))) else (pLaws.j7 k x0 x3 x4 x7 x8 x9 x10 true)) else (pLaws.j7 k x0 x3 x4 x7 x8 x9 x10 false)) else (pLaws.j7 k x0 x3 x4 x7 x8 x9 x10 false)))) else (none)) else (if x10 = 3 then (if x8 > 1 then (if 0 < (x11.length : Int) then (if (rd x11 0) = 0 then (pLaws.j7 k x0 x3 x4 x7 x8 x9 x10 (decide ((wrap64 ((wrap64 (x9 - (rd x11 (wrap64 (x8 - 1))))) - (rd x4 (wrap64 (x8 - 1))))) ≥ (wrap64 (x8 - 1))))) else (pLaws.j7 k x0 x3 x4 x7 x8 x9 x10 true)) else (none)) else (pLaws.j7 k x0 x3 x4 x7 x8 x9 x10 false)) else (pLaws.j7 k x0 x3 x4 x7 x8 x9 x10 false))))) else (none)) else (none)) else (none))
def pLaws.j7 : Nat → List (S27) → Int → List Int → Int → Int → Int → Int → Bool → Option (Bool)
  | 0, _, _, _, _, _, _, _, _ => none
  | k + 1, x0, x3, x4, x7, x8, x9, x10, x216 => if x216 = true then (some false) else (pLaws.l2 k x0 x3 x4 x7 x8 x9 (wrap64 (x10 + 1)))
def pLaws.l4 : Nat → List (S27) → Int → List Int → Int → Int → Option (Bool)
  | 0, _, _, _, _, _ => none
  | k + 1, x0, x3, x4, x9, x15 => if x15 ≤ 3 then (if 0 < (x4.length : Int) then ((place_Align.f (rd x4 0) x9 x15).bind fun bt213 => ((arraslaw21_num.f bt213.2.2).bind fun t217 => (if t217 = 0 then (if bt213.1 < 0 then (pLaws.j9 k x0 x3 x4 x9 x15 true) else (if bt213.2.1 < 0 then (pLaws.j9 k x0 x3 x4 x9 x15 true) else (pLaws.j9 k x0 x3 x4 x9 x15 (decide ((wrap64 (bt213.1 + bt213.2.1)) > x9))))) else (pLaws.j9 k x0 x3 x4 x9 x15 true)))) else (none)) else (pLaws.l0 k x0 (wrap64 (x3 + 1)))
def pLaws.j9 : Nat → List (S27) → Int → List Int → Int → Int → Bool → Option (Bool)
  | 0, _, _, _, _, _, _ => none
  | k + 1, x0, x3, x4, x9, x15, x251 => if x251 = true then (some false) else (pLaws.l4 k x0 x3 x4 x9 (wrap64 (x15 + 1)))
end
def pLaws.f (k : Nat) (l0 : List (S27)) : Option (Bool) := pLaws.l0 k l0 0
theorem pLaws.mono_l : ∀ k, (∀ y0 y1, LeO (pLaws.l0 k y0 y1) (pLaws.l0 (k + 1) y0 y1)) ∧ (∀ y0 y1 y2, LeO (pLaws.j1 k y0 y1 y2) (pLaws.j1 (k + 1) y0 y1 y2)) ∧ (∀ y0 y1 y2 y3 y4, LeO (pLaws.l1 k y0 y1 y2 y3 y4) (pLaws.l1 (k + 1) y0 y1 y2 y3 y4)) ∧ (∀ y0 y1 y2 y3 y4 y5, LeO (pLaws.j3 k y0 y1 y2 y3 y4 y5) (pLaws.j3 (k + 1) y0 y1 y2 y3 y4 y5)) ∧ (∀ y0 y1 y2 y3 y4 y5 y6, LeO (pLaws.l2 k y0 y1 y2 y3 y4 y5 y6) (pLaws.l2 (k + 1) y0 y1 y2 y3 y4 y5 y6)) ∧ (∀ y0 y1 y2 y3 y4 y5 y6 y7 y8, LeO (pLaws.j5 k y0 y1 y2 y3 y4 y5 y6 y7 y8) (pLaws.j5 (k + 1) y0 y1 y2 y3 y4 y5 y6 y7 y8)) ∧ (∀ y0 y1 y2 y3 y4 y5 y6 y7 y8, LeO (pLaws.l3 k y0 y1 y2 y3 y4 y5 y6 y7 y8) (pLaws.l3 (k + 1) y0 y1 y2 y3 y4 y5 y6 y7 y8)) ∧ (∀ y0 y1 y2 y3 y4 y5 y6 y7, LeO (pLaws.j7 k y0 y1 y2 y3 y4 y5 y6 y7) (pLaws.j7 (k + 1) y0 y1 y2 y3 y4 y5 y6 y7)) ∧ (∀ y0 y1 y2 y3 y4, LeO (pLaws.l4 k y0 y1 y2 y3 y4) (pLaws.l4 (k + 1) y0 y1 y2 y3 y4)) ∧ (∀ y0 y1 y2 y3 y4 y5, LeO (pLaws.j9 k y0 y1 y2 y3 y4 y5) (pLaws.j9 (k + 1) y0 y1 y2 y3 y4 y5))
  | 0 => ⟨fun _ _ r h => by simp [pLaws.l0] at h, fun _ _ _ r h => by simp [pLaws.j1] at h, fun _ _ _ _ _ r h => by simp [pLaws.l1] at h, fun _ _ _ _ _ _ r h => by simp [pLaws.j3] at h, fun _ _ _ _ _ _ _ r h => by simp [pLaws.l2] at h, fun _ _ _ _ _ _ _ _ _ r h => by simp [pLaws.j5] at h, fun _ _ _ _ _ _ _ _ _ r h => by simp [pLaws.l3] at h, fun _ _ _ _ _ _ _ _ r h => by simp [pLaws.j7] at h, fun _ _ _ _ _ r h => by simp [pLaws.l4] at h, fun _ _ _ _ _ _ r h => by simp [pLaws.j9] at h⟩
  | k + 1 => by
    obtain ⟨ih0, ih1, ih2, ih3, ih4, ih5, ih6, ih7, ih8, ih9⟩ := pLaws.mono_l k
    refine ⟨?_, ?_, ?_, ?_, ?_, ?_, ?_, ?_, ?_, ?_⟩
    · intro y0 y1
      unfold pLaws.l0
      repeat' first
      | (with_reducible exact ih0 _ _)
      | (with_reducible exact ih1 _ _ _)
      | (with_reducible exact ih2 _ _ _ _ _)
      | (with_reducible exact ih3 _ _ _ _ _ _)
      | (with_reducible exact ih4 _ _ _ _ _ _ _)
      | (with_reducible exact ih5 _ _ _ _ _ _ _ _ _)
      | (with_reducible exact ih6 _ _ _ _ _ _ _ _ _)
      | (with_reducible exact ih7 _ _ _ _ _ _ _ _)
      | (with_reducible exact ih8 _ _ _ _ _)
      | (with_reducible exact ih9 _ _ _ _ _ _)
      | (with_reducible exact arraslaw21_wakes.mono _)
      | (with_reducible exact place_Justify.mono _ _ _ _ _)
      | (with_reducible exact LeO.refl _)
      | (with_reducible exact LeO.none _)
      | (with_reducible refine LeO.ite ?_ ?_)
      | (with_reducible refine LeO.bind ?_ (fun _ => ?_))
      | exact ih0 _ _
      | exact ih1 _ _ _
      | exact ih2 _ _ _ _ _
      | exact ih3 _ _ _ _ _ _
      | exact ih4 _ _ _ _ _ _ _
      | exact ih5 _ _ _ _ _ _ _ _ _
      | exact ih6 _ _ _ _ _ _ _ _ _
      | exact ih7 _ _ _ _ _ _ _ _
      | exact ih8 _ _ _ _ _
      | exact ih9 _ _ _ _ _ _
      | exact arraslaw21_wakes.mono _
      | exact place_Justify.mono _ _ _ _ _
      | exact LeO.none _
      | refine LeO.ite ?_ ?_
      | refine LeO.bind ?_ (fun _ => ?_)
    · intro y0 y1 y2
      unfold pLaws.j1
      repeat' first
      | (with_reducible exact ih0 _ _)
      | (with_reducible exact ih1 _ _ _)
      | (with_reducible exact ih2 _ _ _ _ _)
      | (with_reducible exact ih3 _ _ _ _ _ _)
      | (with_reducible exact ih4 _ _ _ _ _ _ _)
      | (with_reducible exact ih5 _ _ _ _ _ _ _ _ _)
      | (with_reducible exact ih6 _ _ _ _ _ _ _ _ _)
      | (with_reducible exact ih7 _ _ _ _ _ _ _ _)
      | (with_reducible exact ih8 _ _ _ _ _)
      | (with_reducible exact ih9 _ _ _ _ _ _)
      | (with_reducible exact arraslaw21_wakes.mono _)
      | (with_reducible exact place_Justify.mono _ _ _ _ _)
      | (with_reducible exact LeO.refl _)
      | (with_reducible exact LeO.none _)
      | (with_reducible refine LeO.ite ?_ ?_)
      | (with_reducible refine LeO.bind ?_ (fun _ => ?_))
      | exact ih0 _ _
      | exact ih1 _ _ _
      | exact ih2 _ _ _ _ _
      | exact ih3 _ _ _ _ _ _
      | exact ih4 _ _ _ _ _ _ _
      | exact ih5 _ _ _ _ _ _ _ _ _
      | exact ih6 _ _ _ _ _ _ _ _ _
      | exact ih7 _ _ _ _ _ _ _ _
      | exact ih8 _ _ _ _ _
      | exact ih9 _ _ _ _ _ _
      | exact arraslaw21_wakes.mono _
      | exact place_Justify.mono _ _ _ _ _
      | exact LeO.none _
      | refine LeO.ite ?_ ?_
      | refine LeO.bind ?_ (fun _ => ?_)
    · intro y0 y1 y2 y3 y4
      unfold pLaws.l1
      repeat' first
      | (with_reducible exact ih0 _ _)
      | (with_reducible exact ih1 _ _ _)
      | (with_reducible exact ih2 _ _ _ _ _)
      | (with_reducible exact ih3 _ _ _ _ _ _)
      | (with_reducible exact ih4 _ _ _ _ _ _ _)
      | (with_reducible exact ih5 _ _ _ _ _ _ _ _ _)
      | (with_reducible exact ih6 _ _ _ _ _ _ _ _ _)
      | (with_reducible exact ih7 _ _ _ _ _ _ _ _)
      | (with_reducible exact ih8 _ _ _ _ _)
      | (with_reducible exact ih9 _ _ _ _ _ _)
      | (with_reducible exact arraslaw21_wakes.mono _)
      | (with_reducible exact place_Justify.mono _ _ _ _ _)
      | (with_reducible exact LeO.refl _)
      | (with_reducible exact LeO.none _)
      | (with_reducible refine LeO.ite ?_ ?_)
      | (with_reducible refine LeO.bind ?_ (fun _ => ?_))
      | exact ih0 _ _
      | exact ih1 _ _ _
      | exact ih2 _ _ _ _ _
      | exact ih3 _ _ _ _ _ _
      | exact ih4 _ _ _ _ _ _ _
      | exact ih5 _ _ _ _ _ _ _ _ _
      | exact ih6 _ _ _ _ _ _ _ _ _
      | exact ih7 _ _ _ _ _ _ _ _
      | exact ih8 _ _ _ _ _
      | exact ih9 _ _ _ _ _ _
      | exact arraslaw21_wakes.mono _
      | exact place_Justify.mono _ _ _ _ _
      | exact LeO.none _
      | refine LeO.ite ?_ ?_
      | refine LeO.bind ?_ (fun _ => ?_)
    · intro y0 y1 y2 y3 y4 y5
      unfold pLaws.j3
      repeat' first
      | (with_reducible exact ih0 _ _)
      | (with_reducible exact ih1 _ _ _)
      | (with_reducible exact ih2 _ _ _ _ _)
      | (with_reducible exact ih3 _ _ _ _ _ _)
      | (with_reducible exact ih4 _ _ _ _ _ _ _)
      | (with_reducible exact ih5 _ _ _ _ _ _ _ _ _)
      | (with_reducible exact ih6 _ _ _ _ _ _ _ _ _)
      | (with_reducible exact ih7 _ _ _ _ _ _ _ _)
      | (with_reducible exact ih8 _ _ _ _ _)
      | (with_reducible exact ih9 _ _ _ _ _ _)
      | (with_reducible exact arraslaw21_wakes.mono _)
      | (with_reducible exact place_Justify.mono _ _ _ _ _)
      | (with_reducible exact LeO.refl _)
      | (with_reducible exact LeO.none _)
      | (with_reducible refine LeO.ite ?_ ?_)
      | (with_reducible refine LeO.bind ?_ (fun _ => ?_))
      | exact ih0 _ _
      | exact ih1 _ _ _
      | exact ih2 _ _ _ _ _
      | exact ih3 _ _ _ _ _ _
      | exact ih4 _ _ _ _ _ _ _
      | exact ih5 _ _ _ _ _ _ _ _ _
      | exact ih6 _ _ _ _ _ _ _ _ _
      | exact ih7 _ _ _ _ _ _ _ _
      | exact ih8 _ _ _ _ _
      | exact ih9 _ _ _ _ _ _
      | exact arraslaw21_wakes.mono _
      | exact place_Justify.mono _ _ _ _ _
      | exact LeO.none _
      | refine LeO.ite ?_ ?_
      | refine LeO.bind ?_ (fun _ => ?_)
    · intro y0 y1 y2 y3 y4 y5 y6
      unfold pLaws.l2
      repeat' first
      | (with_reducible exact ih0 _ _)
      | (with_reducible exact ih1 _ _ _)
      | (with_reducible exact ih2 _ _ _ _ _)
      | (with_reducible exact ih3 _ _ _ _ _ _)
      | (with_reducible exact ih4 _ _ _ _ _ _ _)
      | (with_reducible exact ih5 _ _ _ _ _ _ _ _ _)
      | (with_reducible exact ih6 _ _ _ _ _ _ _ _ _)
      | (with_reducible exact ih7 _ _ _ _ _ _ _ _)
      | (with_reducible exact ih8 _ _ _ _ _)
      | (with_reducible exact ih9 _ _ _ _ _ _)
      | (with_reducible exact arraslaw21_wakes.mono _)
      | (with_reducible exact place_Justify.mono _ _ _ _ _)
      | (with_reducible exact LeO.refl _)
      | (with_reducible exact LeO.none _)
      | (with_reducible refine LeO.ite ?_ ?_)
      | (with_reducible refine LeO.bind ?_ (fun _ => ?_))
      | exact ih0 _ _
      | exact ih1 _ _ _
      | exact ih2 _ _ _ _ _
      | exact ih3 _ _ _ _ _ _
      | exact ih4 _ _ _ _ _ _ _
      | exact ih5 _ _ _ _ _ _ _ _ _
      | exact ih6 _ _ _ _ _ _ _ _ _
      | exact ih7 _ _ _ _ _ _ _ _
      | exact ih8 _ _ _ _ _
      | exact ih9 _ _ _ _ _ _
      | exact arraslaw21_wakes.mono _
      | exact place_Justify.mono _ _ _ _ _
      | exact LeO.none _
      | refine LeO.ite ?_ ?_
      | refine LeO.bind ?_ (fun _ => ?_)
    · intro y0 y1 y2 y3 y4 y5 y6 y7 y8
      unfold pLaws.j5
      repeat' first
      | (with_reducible exact ih0 _ _)
      | (with_reducible exact ih1 _ _ _)
      | (with_reducible exact ih2 _ _ _ _ _)
      | (with_reducible exact ih3 _ _ _ _ _ _)
      | (with_reducible exact ih4 _ _ _ _ _ _ _)
      | (with_reducible exact ih5 _ _ _ _ _ _ _ _ _)
      | (with_reducible exact ih6 _ _ _ _ _ _ _ _ _)
      | (with_reducible exact ih7 _ _ _ _ _ _ _ _)
      | (with_reducible exact ih8 _ _ _ _ _)
      | (with_reducible exact ih9 _ _ _ _ _ _)
      | (with_reducible exact arraslaw21_wakes.mono _)
      | (with_reducible exact place_Justify.mono _ _ _ _ _)
      | (with_reducible exact LeO.refl _)
      | (with_reducible exact LeO.none _)
      | (with_reducible refine LeO.ite ?_ ?_)
      | (with_reducible refine LeO.bind ?_ (fun _ => ?_))
      | exact ih0 _ _
      | exact ih1 _ _ _
      | exact ih2 _ _ _ _ _
      | exact ih3 _ _ _ _ _ _
      | exact ih4 _ _ _ _ _ _ _
      | exact ih5 _ _ _ _ _ _ _ _ _
      | exact ih6 _ _ _ _ _ _ _ _ _
      | exact ih7 _ _ _ _ _ _ _ _
      | exact ih8 _ _ _ _ _
      | exact ih9 _ _ _ _ _ _
      | exact arraslaw21_wakes.mono _
      | exact place_Justify.mono _ _ _ _ _
      | exact LeO.none _
      | refine LeO.ite ?_ ?_
      | refine LeO.bind ?_ (fun _ => ?_)
    · intro y0 y1 y2 y3 y4 y5 y6 y7 y8
      unfold pLaws.l3
      repeat' first
      | (with_reducible exact ih0 _ _)
      | (with_reducible exact ih1 _ _ _)
      | (with_reducible exact ih2 _ _ _ _ _)
      | (with_reducible exact ih3 _ _ _ _ _ _)
      | (with_reducible exact ih4 _ _ _ _ _ _ _)
      | (with_reducible exact ih5 _ _ _ _ _ _ _ _ _)
      | (with_reducible exact ih6 _ _ _ _ _ _ _ _ _)
      | (with_reducible exact ih7 _ _ _ _ _ _ _ _)
      | (with_reducible exact ih8 _ _ _ _ _)
      | (with_reducible exact ih9 _ _ _ _ _ _)
      | (with_reducible exact arraslaw21_wakes.mono _)
      | (with_reducible exact place_Justify.mono _ _ _ _ _)
      | (with_reducible exact LeO.refl _)
      | (with_reducible exact LeO.none _)
      | (with_reducible refine LeO.ite ?_ ?_)
      | (with_reducible refine LeO.bind ?_ (fun _ => ?_))
      | exact ih0 _ _
      | exact ih1 _ _ _
      | exact ih2 _ _ _ _ _
      | exact ih3 _ _ _ _ _ _
      | exact ih4 _ _ _ _ _ _ _
      | exact ih5 _ _ _ _ _ _ _ _ _
      | exact ih6 _ _ _ _ _ _ _ _ _
      | exact ih7 _ _ _ _ _ _ _ _
      | exact ih8 _ _ _ _ _
      | exact ih9 _ _ _ _ _ _
      | exact arraslaw21_wakes.mono _
      | exact place_Justify.mono _ _ _ _ _
      | exact LeO.none _
      | refine LeO.ite ?_ ?_
      | refine LeO.bind ?_ (fun _ => ?_)
    · intro y0 y1 y2 y3 y4 y5 y6 y7
      unfold pLaws.j7
      repeat' first
      | (with_reducible exact ih0 _ _)
      | (with_reducible exact ih1 _ _ _)
      | (with_reducible exact ih2 _ _ _ _ _)
      | (with_reducible exact ih3 _ _ _ _ _ _)
      | (with_reducible exact ih4 _ _ _ _ _ _ _)
      | (with_reducible exact ih5 _ _ _ _ _ _ _ _ _)
      | (with_reducible exact ih6 _ _ _ _ _ _ _ _ _)
      | (with_reducible exact ih7 _ _ _ _ _ _ _ _)
      | (with_reducible exact ih8 _ _ _ _ _)
      | (with_reducible exact ih9 _ _ _ _ _ _)
      | (with_reducible exact arraslaw21_wakes.mono _)
      | (with_reducible exact place_Justify.mono _ _ _ _ _)
      | (with_reducible exact LeO.refl _)
      | (with_reducible exact LeO.none _)
      | (with_reducible refine LeO.ite ?_ ?_)
      | (with_reducible refine LeO.bind ?_ (fun _ => ?_))
      | exact ih0 _ _
      | exact ih1 _ _ _
      | exact ih2 _ _ _ _ _
      | exact ih3 _ _ _ _ _ _
      | exact ih4 _ _ _ _ _ _ _
      | exact ih5 _ _ _ _ _ _ _ _ _
      | exact ih6 _ _ _ _ _ _ _ _ _
      | exact ih7 _ _ _ _ _ _ _ _
      | exact ih8 _ _ _ _ _
      | exact ih9 _ _ _ _ _ _
      | exact arraslaw21_wakes.mono _
      | exact place_Justify.mono _ _ _ _ _
      | exact LeO.none _
      | refine LeO.ite ?_ ?_
      | refine LeO.bind ?_ (fun _ => ?_)
    · intro y0 y1 y2 y3 y4
      unfold pLaws.l4
      repeat' first
      | (with_reducible exact ih0 _ _)
      | (with_reducible exact ih1 _ _ _)
      | (with_reducible exact ih2 _ _ _ _ _)
      | (with_reducible exact ih3 _ _ _ _ _ _)
      | (with_reducible exact ih4 _ _ _ _ _ _ _)
      | (with_reducible exact ih5 _ _ _ _ _ _ _ _ _)
      | (with_reducible exact ih6 _ _ _ _ _ _ _ _ _)
      | (with_reducible exact ih7 _ _ _ _ _ _ _ _)
      | (with_reducible exact ih8 _ _ _ _ _)
      | (with_reducible exact ih9 _ _ _ _ _ _)
      | (with_reducible exact arraslaw21_wakes.mono _)
      | (with_reducible exact place_Justify.mono _ _ _ _ _)
      | (with_reducible exact LeO.refl _)
      | (with_reducible exact LeO.none _)
      | (with_reducible refine LeO.ite ?_ ?_)
      | (with_reducible refine LeO.bind ?_ (fun _ => ?_))
      | exact ih0 _ _
      | exact ih1 _ _ _
      | exact ih2 _ _ _ _ _
      | exact ih3 _ _ _ _ _ _
      | exact ih4 _ _ _ _ _ _ _
      | exact ih5 _ _ _ _ _ _ _ _ _
      | exact ih6 _ _ _ _ _ _ _ _ _
      | exact ih7 _ _ _ _ _ _ _ _
      | exact ih8 _ _ _ _ _
      | exact ih9 _ _ _ _ _ _
      | exact arraslaw21_wakes.mono _
      | exact place_Justify.mono _ _ _ _ _
      | exact LeO.none _
      | refine LeO.ite ?_ ?_
      | refine LeO.bind ?_ (fun _ => ?_)
    · intro y0 y1 y2 y3 y4 y5
      unfold pLaws.j9
      repeat' first
      | (with_reducible exact ih0 _ _)
      | (with_reducible exact ih1 _ _ _)
      | (with_reducible exact ih2 _ _ _ _ _)
      | (with_reducible exact ih3 _ _ _ _ _ _)
      | (with_reducible exact ih4 _ _ _ _ _ _ _)
      | (with_reducible exact ih5 _ _ _ _ _ _ _ _ _)
      | (with_reducible exact ih6 _ _ _ _ _ _ _ _ _)
      | (with_reducible exact ih7 _ _ _ _ _ _ _ _)
      | (with_reducible exact ih8 _ _ _ _ _)
      | (with_reducible exact ih9 _ _ _ _ _ _)
      | (with_reducible exact arraslaw21_wakes.mono _)
      | (with_reducible exact place_Justify.mono _ _ _ _ _)
      | (with_reducible exact LeO.refl _)
      | (with_reducible exact LeO.none _)
      | (with_reducible refine LeO.ite ?_ ?_)
      | (with_reducible refine LeO.bind ?_ (fun _ => ?_))
      | exact ih0 _ _
      | exact ih1 _ _ _
      | exact ih2 _ _ _ _ _
      | exact ih3 _ _ _ _ _ _
      | exact ih4 _ _ _ _ _ _ _
      | exact ih5 _ _ _ _ _ _ _ _ _
      | exact ih6 _ _ _ _ _ _ _ _ _
      | exact ih7 _ _ _ _ _ _ _ _
      | exact ih8 _ _ _ _ _
      | exact ih9 _ _ _ _ _ _
      | exact arraslaw21_wakes.mono _
      | exact place_Justify.mono _ _ _ _ _
      | exact LeO.none _
      | refine LeO.ite ?_ ?_
      | refine LeO.bind ?_ (fun _ => ?_)
theorem pLaws.mono : ∀ a0 k, LeO (pLaws.f k a0) (pLaws.f (k + 1) a0) := by
  intro a0 k
  obtain ⟨ih0, ih1, ih2, ih3, ih4, ih5, ih6, ih7, ih8, ih9⟩ := pLaws.mono_l k
  unfold pLaws.f
  repeat' first
      | (with_reducible exact ih0 _ _)
      | (with_reducible exact ih1 _ _ _)
      | (with_reducible exact ih2 _ _ _ _ _)
      | (with_reducible exact ih3 _ _ _ _ _ _)
      | (with_reducible exact ih4 _ _ _ _ _ _ _)
      | (with_reducible exact ih5 _ _ _ _ _ _ _ _ _)
      | (with_reducible exact ih6 _ _ _ _ _ _ _ _ _)
      | (with_reducible exact ih7 _ _ _ _ _ _ _ _)
      | (with_reducible exact ih8 _ _ _ _ _)
      | (with_reducible exact ih9 _ _ _ _ _ _)
      | (with_reducible exact arraslaw21_wakes.mono _)
      | (with_reducible exact place_Justify.mono _ _ _ _ _)
      | (with_reducible exact LeO.refl _)
      | (with_reducible exact LeO.none _)
      | (with_reducible refine LeO.ite ?_ ?_)
      | (with_reducible refine LeO.bind ?_ (fun _ => ?_))
      | exact ih0 _ _
      | exact ih1 _ _ _
      | exact ih2 _ _ _ _ _
      | exact ih3 _ _ _ _ _ _
      | exact ih4 _ _ _ _ _ _ _
      | exact ih5 _ _ _ _ _ _ _ _ _
      | exact ih6 _ _ _ _ _ _ _ _ _
      | exact ih7 _ _ _ _ _ _ _ _
      | exact ih8 _ _ _ _ _
      | exact ih9 _ _ _ _ _ _
      | exact arraslaw21_wakes.mono _
      | exact place_Justify.mono _ _ _ _ _
      | exact LeO.none _
      | refine LeO.ite ?_ ?_
      | refine LeO.bind ?_ (fun _ => ?_)
def pLaws.T20 : Bool × List (List Nat × List Nat) := (true, [([], []), ([0], [0]), ([1], [1]), ([2, 1], [2]), ([3], [3]), ([4, 3], [3, 4]), ([3], [3]), ([5, 6, 3], [3, 5, 6]), ([3, 7], [3, 7]), ([8, 3], [8]), ([9], [9]), ([10, 9], [9, 10]), ([11, 9], [9, 11]), ([12, 9], [9, 12]), ([9, 13], [9, 13]), ([14, 9], [14]), ([15], [15]), ([15], [15]), ([17, 15], [15, 17]), ([16, 18, 15], [15, 16, 18]), ([19, 15], [15, 19]), ([15], [15]), ([15], [15]), ([22, 15], [15, 22]), ([21, 23, 15], [15, 21, 23]), ([24, 15], [15, 24]), ([20, 25, 15], [15, 20, 25]), ([15], [15]), ([26, 27, 15], [15, 26, 27]), ([15, 28], [15, 28])])
def pLaws.B20 : List Nat := [0, 1, 3, 7, 15, 31, 15, 127, 255, 511, 1023, 2047, 4095, 8191, 16383, 32767, 65535, 65535, 196607, 524287, 1048575, 65535, 65535, 4259839, 14745599, 31522815, 67108863, 65535, 268435455, 536870911]
theorem pLaws.tab20 : rtab .any (opsOf Try.f11 20) = pLaws.T20 := by kernel_rfl
theorem pLaws.bits20 : waitsOk pLaws.T20.2 pLaws.B20 = true := by kernel_rfl
def pLaws.T25 : Bool × List (List Nat × List Nat) := (true, [([], []), ([], []), ([0, 1], [0, 1]), ([2], [2]), ([], []), ([], []), ([5], [5]), ([4, 6], [4, 6]), ([7], [7]), ([], []), ([], []), ([10], [10]), ([9, 11], [9, 11]), ([12], [12]), ([8, 13], [8, 13]), ([], []), ([14, 15], [14, 15]), ([3, 16], [3, 16])])
def pLaws.B25 : List Nat := [0, 0, 3, 7, 0, 0, 32, 112, 240, 0, 0, 1024, 3584, 7680, 16368, 0, 65520, 131071]
theorem pLaws.tab25 : rtab .any (opsOf Try.f11 25) = pLaws.T25 := by kernel_rfl
theorem pLaws.bits25 : waitsOk pLaws.T25.2 pLaws.B25 = true := by kernel_rfl
def pLaws.T27 : Bool × List (List Nat × List Nat) := (true, [([], []), ([], []), ([], []), ([2], [2]), ([1, 3], [1, 3]), ([4], [4]), ([0, 5], [0, 5]), ([], []), ([], []), ([8], [8]), ([7, 9], [7, 9]), ([10], [10]), ([6, 11], [6, 11]), ([12, 0, 1, 2, 3, 4, 5, 6, 7, 8, 9, 10, 11, 12], [12])])
def pLaws.B27 : List Nat := [0, 0, 0, 4, 14, 30, 63, 0, 0, 256, 896, 1920, 4095, 8191]
theorem pLaws.tab27 : rtab .any (opsOf Try.f11 27) = pLaws.T27 := by kernel_rfl
theorem pLaws.bits27 : waitsOk pLaws.T27.2 pLaws.B27 = true := by kernel_rfl
abbrev pm0 : Array Bool := #[false, false, false, false, false, false, false, false, false, false, false, false, false, false, false, false, false, false, false, false, false, false, false, false, false, false, false, false, false, false]
abbrev pm1 : Array Bool := #[false, false, false, false, false, false, false, false, false, false, false, false, false, false, false, false, false, false]
abbrev pm2 : Array Bool := #[false, false, false, false, false, false, false, false, false, false, false, false, false, false]
abbrev pm3 : Array Bool := #[true, false, false, false, false, false, false, false, false, false, false, false, false, false, false, false, false, false, false, false, false, false, false, false, false, false, false, false, false, false]
abbrev pm4 : Array Bool := #[true, false, false, false, false, false, false, false, false, false, false, false, false, false, false, false, false, false]
abbrev pm5 : Array Bool := #[true, false, false, false, false, false, false, false, false, false, false, false, false, false]
abbrev pm6 : Array Bool := #[true, true, false, false, false, false, false, false, false, false, false, false, false, false, false, false, false, false, false, false, false, false, false, false, false, false, false, false, false, false]
abbrev pm7 : Array Bool := #[true, true, false, false, false, false, false, false, false, false, false, false, false, false, false, false, false, false]
abbrev pm8 : Array Bool := #[true, true, false, false, false, false, false, false, false, false, false, false, false, false]
abbrev pm9 : Array Bool := #[true, true, true, false, false, false, false, false, false, false, false, false, false, false, false, false, false, false, false, false, false, false, false, false, false, false, false, false, false, false]
abbrev pm10 : Array Bool := #[true, true, true, false, false, false, false, false, false, false, false, false, false, false, false, false, false, false]
abbrev pm11 : Array Bool := #[true, true, true, false, false, false, false, false, false, false, false, false, false, false]
abbrev pm12 : Array Bool := #[true, true, true, false, true, false, false, false, false, false, false, false, false, false, false, false, false, false]
abbrev pm13 : Array Bool := #[true, true, true, false, true, true, false, false, false, false, false, false, false, false, false, false, false, false]
abbrev pm14 : Array Bool := #[true, true, true, false, true, true, true, false, false, false, false, false, false, false, false, false, false, false]
abbrev pm15 : Array Bool := #[true, true, true, false, true, true, true, true, false, false, false, false, false, false, false, false, false, false]
abbrev pm16 : Array Bool := #[true, true, true, false, true, true, true, true, false, true, false, false, false, false, false, false, false, false]
abbrev pm17 : Array Bool := #[true, true, true, false, true, true, true, true, false, true, true, false, false, false, false, false, false, false]
abbrev pm18 : Array Bool := #[true, true, true, false, true, true, true, true, false, true, true, true, false, false, false, false, false, false]
abbrev pm19 : Array Bool := #[true, true, true, false, true, true, true, true, false, true, true, true, true, false, false, false, false, false]
abbrev pm20 : Array Bool := #[true, true, true, false, true, true, true, true, false, true, true, true, true, false, false, true, false, false]
abbrev pm21 : Array Bool := #[true, true, true, true, false, false, false, false, false, false, false, false, false, false, false, false, false, false, false, false, false, false, false, false, false, false, false, false, false, false]
abbrev pm22 : Array Bool := #[true, true, true, true, false, false, false, false, false, false, false, false, false, false]
abbrev pm23 : Array Bool := #[true, true, true, true, true, false, false, false, false, false, false, false, false, false, false, false, false, false, false, false, false, false, false, false, false, false, false, false, false, false]
abbrev pm24 : Array Bool := #[true, true, true, true, true, false, false, false, false, false, false, false, false, false]
abbrev pm25 : Array Bool := #[true, true, true, true, true, false, false, true, false, false, false, false, false, false]
abbrev pm26 : Array Bool := #[true, true, true, true, true, false, false, true, true, false, false, false, false, false]
abbrev pm27 : Array Bool := #[true, true, true, true, true, false, false, true, true, true, false, false, false, false]
abbrev pm28 : Array Bool := #[true, true, true, true, true, false, false, true, true, true, true, false, false, false]
abbrev pm29 : Array Bool := #[true, true, true, true, true, true, false, false, false, false, false, false, false, false, false, false, false, false, false, false, false, false, false, false, false, false, false, false, false, false]
abbrev pm30 : Array Bool := #[true, true, true, true, true, true, false, true, true, true, true, false, false, false]
abbrev pm31 : Array Bool := #[true, true, true, true, true, true, true, false, false, false, false, false, false, false, false, false, false, false, false, false, false, false, false, false, false, false, false, false, false, false]
abbrev pm32 : Array Bool := #[true, true, true, true, true, true, true, true, false, false, false, false, false, false, false, false, false, false, false, false, false, false, false, false, false, false, false, false, false, false]
abbrev pm33 : Array Bool := #[true, true, true, true, true, true, true, true, false, true, true, true, true, false, false, true, false, false]
abbrev pm34 : Array Bool := #[true, true, true, true, true, true, true, true, true, false, false, false, false, false, false, false, false, false, false, false, false, false, false, false, false, false, false, false, false, false]
abbrev pm35 : Array Bool := #[true, true, true, true, true, true, true, true, true, true, false, false, false, false, false, false, false, false, false, false, false, false, false, false, false, false, false, false, false, false]
abbrev pm36 : Array Bool := #[true, true, true, true, true, true, true, true, true, true, true, false, false, false, false, false, false, false, false, false, false, false, false, false, false, false, false, false, false, false]
abbrev pm37 : Array Bool := #[true, true, true, true, true, true, true, true, true, true, true, false, false, false]
abbrev pm38 : Array Bool := #[true, true, true, true, true, true, true, true, true, true, true, true, false, false, false, false, false, false, false, false, false, false, false, false, false, false, false, false, false, false]
abbrev pm39 : Array Bool := #[true, true, true, true, true, true, true, true, true, true, true, true, false, false]
abbrev pm40 : Array Bool := #[true, true, true, true, true, true, true, true, true, true, true, true, true, false, false, false, false, false, false, false, false, false, false, false, false, false, false, false, false, false]
abbrev pm41 : Array Bool := #[true, true, true, true, true, true, true, true, true, true, true, true, true, false, false, true, false, false]
abbrev pm42 : Array Bool := #[true, true, true, true, true, true, true, true, true, true, true, true, true, false]
abbrev pm43 : Array Bool := #[true, true, true, true, true, true, true, true, true, true, true, true, true, true, false, false, false, false, false, false, false, false, false, false, false, false, false, false, false, false]
abbrev pm44 : Array Bool := #[true, true, true, true, true, true, true, true, true, true, true, true, true, true, false, true, false, false]
abbrev pm45 : Array Bool := #[true, true, true, true, true, true, true, true, true, true, true, true, true, true, true, false, false, false, false, false, false, false, false, false, false, false, false, false, false, false]
abbrev pm46 : Array Bool := #[true, true, true, true, true, true, true, true, true, true, true, true, true, true, true, true, false, false, false, false, false, false, false, false, false, false, false, false, false, false]
abbrev pm47 : Array Bool := #[true, true, true, true, true, true, true, true, true, true, true, true, true, true, true, true, false, false]
abbrev pm48 : Array Bool := #[true, true, true, true, true, true, true, true, true, true, true, true, true, true, true, true, true, false, false, false, false, false, false, false, false, false, false, false, false, false]
abbrev pm49 : Array Bool := #[true, true, true, true, true, true, true, true, true, true, true, true, true, true, true, true, true, false]
abbrev pm50 : Array Bool := #[true, true, true, true, true, true, true, true, true, true, true, true, true, true, true, true, true, true, false, false, false, false, false, false, false, false, false, false, false, false]
abbrev pm51 : Array Bool := #[true, true, true, true, true, true, true, true, true, true, true, true, true, true, true, true, true, true, true, false, false, false, false, false, false, false, false, false, false, false]
abbrev pm52 : Array Bool := #[true, true, true, true, true, true, true, true, true, true, true, true, true, true, true, true, true, true, true, true, false, false, false, false, false, false, false, false, false, false]
abbrev pm53 : Array Bool := #[true, true, true, true, true, true, true, true, true, true, true, true, true, true, true, true, true, true, true, true, false, true, false, false, false, false, false, false, false, false]
abbrev pm54 : Array Bool := #[true, true, true, true, true, true, true, true, true, true, true, true, true, true, true, true, true, true, true, true, false, true, true, false, false, false, false, false, false, false]
abbrev pm55 : Array Bool := #[true, true, true, true, true, true, true, true, true, true, true, true, true, true, true, true, true, true, true, true, false, true, true, true, false, false, false, false, false, false]
abbrev pm56 : Array Bool := #[true, true, true, true, true, true, true, true, true, true, true, true, true, true, true, true, true, true, true, true, false, true, true, true, true, false, false, false, false, false]
abbrev pm57 : Array Bool := #[true, true, true, true, true, true, true, true, true, true, true, true, true, true, true, true, true, true, true, true, false, true, true, true, true, false, false, true, false, false]
abbrev pm58 : Array Bool := #[true, true, true, true, true, true, true, true, true, true, true, true, true, true, true, true, true, true, true, true, true, false, false, false, false, false, false, false, false, false]
abbrev pm59 : Array Bool := #[true, true, true, true, true, true, true, true, true, true, true, true, true, true, true, true, true, true, true, true, true, true, false, false, false, false, false, false, false, false]
abbrev pm60 : Array Bool := #[true, true, true, true, true, true, true, true, true, true, true, true, true, true, true, true, true, true, true, true, true, true, true, false, false, false, false, false, false, false]
abbrev pm61 : Array Bool := #[true, true, true, true, true, true, true, true, true, true, true, true, true, true, true, true, true, true, true, true, true, true, true, true, false, false, false, false, false, false]
abbrev pm62 : Array Bool := #[true, true, true, true, true, true, true, true, true, true, true, true, true, true, true, true, true, true, true, true, true, true, true, true, true, false, false, false, false, false]
abbrev pm63 : Array Bool := #[true, true, true, true, true, true, true, true, true, true, true, true, true, true, true, true, true, true, true, true, true, true, true, true, true, false, false, true, false, false]
abbrev pm64 : Array Bool := #[true, true, true, true, true, true, true, true, true, true, true, true, true, true, true, true, true, true, true, true, true, true, true, true, true, true, false, false, false, false]
abbrev pm65 : Array Bool := #[true, true, true, true, true, true, true, true, true, true, true, true, true, true, true, true, true, true, true, true, true, true, true, true, true, true, false, true, false, false]
abbrev pm66 : Array Bool := #[true, true, true, true, true, true, true, true, true, true, true, true, true, true, true, true, true, true, true, true, true, true, true, true, true, true, true, false, false, false]
abbrev pm67 : Array Bool := #[true, true, true, true, true, true, true, true, true, true, true, true, true, true, true, true, true, true, true, true, true, true, true, true, true, true, true, true, false, false]
abbrev pm68 : Array Bool := #[true, true, true, true, true, true, true, true, true, true, true, true, true, true, true, true, true, true, true, true, true, true, true, true, true, true, true, true, true, false]
abbrev pm69 : Array Bool := #[true, true, true, true, true, true, true, true, true, true, true, true, true, true, true, true, true, true, true, true, true, true, true, true, true, true, true, true, true, true]
abbrev pm70 : Array Bool := #[true, true, true, true, true, true, true, true, true, true, true, true, true, true, true, true, true, true]
abbrev pm71 : Array Bool := #[true, true, true, true, true, true, true, true, true, true, true, true, true, true]
end Go.Proofs.Yteecoblmjjmbhaa.PA
