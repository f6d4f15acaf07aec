-- Written by wprint.py, a program of this session's, over the kit's print.
import Derived.Test.YteecoblmjjmbhaaPAx0
import Derived.Test.YteecoblmjjmbhaaPAx3
import Derived.Test.YteecoblmjjmbhaaPAx4
import Derived.Test.YteecoblmjjmbhaaPAx5
namespace Go.Proofs.Yteecoblmjjmbhaa.PA
open Go.RowKit Go.Proofs.YteecoblmjjmbhaaW.PrintWords Go.Proofs.YteecoblmjjmbhaaW.PrintLast Go.Proofs.YteecoblmjjmbhaaW.PrintMore
attribute [local go_sem] max2_int min2_int max_two min_two max_three min_three max_four min_four   -- for this text's walks alone
set_option linter.unusedVariables false
set_option linter.unusedSimpArgs false

/-! ### arraslaw21_PlaceJustifies: function 8 -/
mutual
def arraslaw21_PlaceJustifies.l0 : Nat → List (S27) → Int → Option (Bool)
  | 0, _, _ => none
  | k + 1, x0, x3 => if x3 < (x0.length : Int) then (arraslaw21_PlaceJustifies.j1 k x0 x3 (decide (x3 < 12))) else (arraslaw21_PlaceJustifies.j1 k x0 x3 false)
def arraslaw21_PlaceJustifies.j1 : Nat → List (S27) → Int → Bool → Option (Bool)
  | 0, _, _, _ => none
  | k + 1, x0, x3, x23 => if x23 = true then (if 0 ≤ x3 then (if x3 < (x0.length : Int) then (if (((rd_T27 x0 x3).f0).length : Int) > 1500 then (some true) else ((arrasref0_CopyNumbers.f k ((rd_T27 x0 x3).f0)).bind fun t231 => (arraslaw21_PlaceJustifies.l1 k x0 x3 t231 (-1) ((rd_T27 x0 x3).f0) ((rd_T27 x0 x3).f1) ((rd_T27 x0 x3).f2) ((rd_T27 x0 x3).f3)))) else (none)) else (none)) else ((arraslaw21_wakes.f k).bind fun t228 => (some t228))
def arraslaw21_PlaceJustifies.l1 : Nat → List (S27) → Int → List Int → Int → List Int → Int → Int → Int → Option (Bool)
  | 0, _, _, _, _, _, _, _, _ => none
  | k + 1, x0, x3, x5, x6, x231000, x231001, x231002, x231003 => if x6 ≤ 5 then (if x6 = 5 then (arraslaw21_PlaceJustifies.j3 k x0 x3 x5 x6 x231003 x231000 x231001 x231002 x231003) else (arraslaw21_PlaceJustifies.j3 k x0 x3 x5 x6 x6 x231000 x231001 x231002 x231003)) else ((place_Stack.f k x5 x231001).bind fun bt244 => ((arrasref19_Sizes.f k x231000 x231001 1000).bind fun t248 => (if t248 = true then ((arrasref19_Stack.f k x231000 x231001).bind fun t249 => (arraslaw21_PlaceJustifies.j5 k x0 x3 x5 bt244.1 bt244.2 0 t249 x231000 x231001 x231002 x231003)) else (arraslaw21_PlaceJustifies.j5 k x0 x3 x5 bt244.1 bt244.2 1 ([] : List Int) x231000 x231001 x231002 x231003))))
def arraslaw21_PlaceJustifies.j3 : Nat → List (S27) → Int → List Int → Int → Int → List Int → Int → Int → Int → Option (Bool)
  | 0, _, _, _, _, _, _, _, _, _ => none
  | k + 1, x0, x3, x5, x6, x7, x231000, x231001, x231002, x231003 => (place_Justify.f k x5 x231001 x231002 x7).bind fun bt234 => ((arrasref19_MayJustify.f k x231000 x231001 x231002 x7).bind fun t238 => (if t238 = true then ((arrasref19_Justify.f k x231000 x231001 x231002 x7).bind fun t239 => (arraslaw21_PlaceJustifies.j4 k x0 x3 x5 x6 bt234.1 bt234.2 0 t239 x231000 x231001 x231002 x231003)) else (arraslaw21_PlaceJustifies.j4 k x0 x3 x5 x6 bt234.1 bt234.2 1 ([] : List Int) x231000 x231001 x231002 x231003)))
def arraslaw21_PlaceJustifies.j4 : Nat → List (S27) → Int → List Int → Int → List Int → Int → Int → List Int → List Int → Int → Int → Int → Option (Bool)
  | 0, _, _, _, _, _, _, _, _, _, _, _, _ => none
  | k + 1, x0, x3, x5, x6, x8, x9, x10, x11, x231000, x231001, x231002, x231003 => (arraslaw21_num.f x9).bind fun t242 => (if t242 = x10 then ((arrasref0_EqNumbers.f k x8 x11).bind fun t243 => (if t243 = true then ((arraslaw0_Numbers.f k x8).bind fun _ => (arraslaw21_PlaceJustifies.l1 k x0 x3 x5 (wrap64 (x6 + 1)) x231000 x231001 x231002 x231003)) else (some false))) else (some false))
def arraslaw21_PlaceJustifies.j5 : Nat → List (S27) → Int → List Int → List Int → Int → Int → List Int → List Int → Int → Int → Int → Option (Bool)
  | 0, _, _, _, _, _, _, _, _, _, _, _ => none
  | k + 1, x0, x3, x5, x12, x13, x14, x15, x231000, x231001, x231002, x231003 => (arraslaw21_num.f x13).bind fun t252 => (if t252 = x14 then ((arrasref0_EqNumbers.f k x12 x15).bind fun t253 => (if t253 = true then ((arrasref0_EqNumbers.f k x5 x231000).bind fun t254 => (if t254 = true then (arraslaw21_PlaceJustifies.l0 k x0 (wrap64 (x3 + 1))) else (some false))) else (some false))) else (some false))
end
def arraslaw21_PlaceJustifies.f (k : Nat) (l0 : List (S27)) : Option (Bool) := arraslaw21_PlaceJustifies.l0 k l0 0
theorem arraslaw21_PlaceJustifies.mono_l : ∀ k, (∀ y0 y1, LeO (arraslaw21_PlaceJustifies.l0 k y0 y1) (arraslaw21_PlaceJustifies.l0 (k + 1) y0 y1)) ∧ (∀ y0 y1 y2, LeO (arraslaw21_PlaceJustifies.j1 k y0 y1 y2) (arraslaw21_PlaceJustifies.j1 (k + 1) y0 y1 y2)) ∧ (∀ y0 y1 y2 y3 y4 y5 y6 y7, LeO (arraslaw21_PlaceJustifies.l1 k y0 y1 y2 y3 y4 y5 y6 y7) (arraslaw21_PlaceJustifies.l1 (k + 1) y0 y1 y2 y3 y4 y5 y6 y7)) ∧ (∀ y0 y1 y2 y3 y4 y5 y6 y7 y8, LeO (arraslaw21_PlaceJustifies.j3 k y0 y1 y2 y3 y4 y5 y6 y7 y8) (arraslaw21_PlaceJustifies.j3 (k + 1) y0 y1 y2 y3 y4 y5 y6 y7 y8)) ∧ (∀ y0 y1 y2 y3 y4 y5 y6 y7 y8 y9 y10 y11, LeO (arraslaw21_PlaceJustifies.j4 k y0 y1 y2 y3 y4 y5 y6 y7 y8 y9 y10 y11) (arraslaw21_PlaceJustifies.j4 (k + 1) y0 y1 y2 y3 y4 y5 y6 y7 y8 y9 y10 y11)) ∧ (∀ y0 y1 y2 y3 y4 y5 y6 y7 y8 y9 y10, LeO (arraslaw21_PlaceJustifies.j5 k y0 y1 y2 y3 y4 y5 y6 y7 y8 y9 y10) (arraslaw21_PlaceJustifies.j5 (k + 1) y0 y1 y2 y3 y4 y5 y6 y7 y8 y9 y10))
  | 0 => ⟨fun _ _ r h => by simp [arraslaw21_PlaceJustifies.l0] at h, fun _ _ _ r h => by simp [arraslaw21_PlaceJustifies.j1] at h, fun _ _ _ _ _ _ _ _ r h => by simp [arraslaw21_PlaceJustifies.l1] at h, fun _ _ _ _ _ _ _ _ _ r h => by simp [arraslaw21_PlaceJustifies.j3] at h, fun _ _ _ _ _ _ _ _ _ _ _ _ r h => by simp [arraslaw21_PlaceJustifies.j4] at h, fun _ _ _ _ _ _ _ _ _ _ _ r h => by simp [arraslaw21_PlaceJustifies.j5] at h⟩
  | k + 1 => by
    obtain ⟨ih0, ih1, ih2, ih3, ih4, ih5⟩ := arraslaw21_PlaceJustifies.mono_l k
    refine ⟨?_, ?_, ?_, ?_, ?_, ?_⟩
    · intro y0 y1
      unfold arraslaw21_PlaceJustifies.l0
      repeat' first
      | (with_reducible exact ih0 _ _)
      | (with_reducible exact ih1 _ _ _)
      | (with_reducible exact ih2 _ _ _ _ _ _ _ _)
      | (with_reducible exact ih3 _ _ _ _ _ _ _ _ _)
      | (with_reducible exact ih4 _ _ _ _ _ _ _ _ _ _ _ _)
      | (with_reducible exact ih5 _ _ _ _ _ _ _ _ _ _ _)
      | (with_reducible exact arraslaw0_Numbers.mono _ _)
      | (with_reducible exact arraslaw21_wakes.mono _)
      | (with_reducible exact arrasref0_CopyNumbers.mono _ _)
      | (with_reducible exact arrasref0_EqNumbers.mono _ _ _)
      | (with_reducible exact arrasref19_Justify.mono _ _ _ _ _)
      | (with_reducible exact arrasref19_MayJustify.mono _ _ _ _ _)
      | (with_reducible exact arrasref19_Sizes.mono _ _ _ _)
      | (with_reducible exact arrasref19_Stack.mono _ _ _)
      | (with_reducible exact place_Justify.mono _ _ _ _ _)
      | (with_reducible exact place_Stack.mono _ _ _)
      | (with_reducible exact LeO.refl _)
      | (with_reducible exact LeO.none _)
      | (with_reducible refine LeO.ite ?_ ?_)
      | (with_reducible refine LeO.bind ?_ (fun _ => ?_))
      | exact ih0 _ _
      | exact ih1 _ _ _
      | exact ih2 _ _ _ _ _ _ _ _
      | exact ih3 _ _ _ _ _ _ _ _ _
      | exact ih4 _ _ _ _ _ _ _ _ _ _ _ _
      | exact ih5 _ _ _ _ _ _ _ _ _ _ _
      | exact arraslaw0_Numbers.mono _ _
      | exact arraslaw21_wakes.mono _
      | exact arrasref0_CopyNumbers.mono _ _
      | exact arrasref0_EqNumbers.mono _ _ _
      | exact arrasref19_Justify.mono _ _ _ _ _
      | exact arrasref19_MayJustify.mono _ _ _ _ _
      | exact arrasref19_Sizes.mono _ _ _ _
      | exact arrasref19_Stack.mono _ _ _
      | exact place_Justify.mono _ _ _ _ _
      | exact place_Stack.mono _ _ _
      | exact LeO.none _
      | refine LeO.ite ?_ ?_
      | refine LeO.bind ?_ (fun _ => ?_)
    · intro y0 y1 y2
      unfold arraslaw21_PlaceJustifies.j1
      repeat' first
      | (with_reducible exact ih0 _ _)
      | (with_reducible exact ih1 _ _ _)
      | (with_reducible exact ih2 _ _ _ _ _ _ _ _)
      | (with_reducible exact ih3 _ _ _ _ _ _ _ _ _)
      | (with_reducible exact ih4 _ _ _ _ _ _ _ _ _ _ _ _)
      | (with_reducible exact ih5 _ _ _ _ _ _ _ _ _ _ _)
      | (with_reducible exact arraslaw0_Numbers.mono _ _)
      | (with_reducible exact arraslaw21_wakes.mono _)
      | (with_reducible exact arrasref0_CopyNumbers.mono _ _)
      | (with_reducible exact arrasref0_EqNumbers.mono _ _ _)
      | (with_reducible exact arrasref19_Justify.mono _ _ _ _ _)
      | (with_reducible exact arrasref19_MayJustify.mono _ _ _ _ _)
      | (with_reducible exact arrasref19_Sizes.mono _ _ _ _)
      | (with_reducible exact arrasref19_Stack.mono _ _ _)
      | (with_reducible exact place_Justify.mono _ _ _ _ _)
      | (with_reducible exact place_Stack.mono _ _ _)
      | (with_reducible exact LeO.refl _)
      | (with_reducible exact LeO.none _)
      | (with_reducible refine LeO.ite ?_ ?_)
      | (with_reducible refine LeO.bind ?_ (fun _ => ?_))
      | exact ih0 _ _
      | exact ih1 _ _ _
      | exact ih2 _ _ _ _ _ _ _ _
      | exact ih3 _ _ _ _ _ _ _ _ _
      | exact ih4 _ _ _ _ _ _ _ _ _ _ _ _
      | exact ih5 _ _ _ _ _ _ _ _ _ _ _
      | exact arraslaw0_Numbers.mono _ _
      | exact arraslaw21_wakes.mono _
      | exact arrasref0_CopyNumbers.mono _ _
      | exact arrasref0_EqNumbers.mono _ _ _
      | exact arrasref19_Justify.mono _ _ _ _ _
      | exact arrasref19_MayJustify.mono _ _ _ _ _
      | exact arrasref19_Sizes.mono _ _ _ _
      | exact arrasref19_Stack.mono _ _ _
      | exact place_Justify.mono _ _ _ _ _
      | exact place_Stack.mono _ _ _
      | exact LeO.none _
      | refine LeO.ite ?_ ?_
      | refine LeO.bind ?_ (fun _ => ?_)
    · intro y0 y1 y2 y3 y4 y5 y6 y7
      unfold arraslaw21_PlaceJustifies.l1
      repeat' first
      | (with_reducible exact ih0 _ _)
      | (with_reducible exact ih1 _ _ _)
      | (with_reducible exact ih2 _ _ _ _ _ _ _ _)
      | (with_reducible exact ih3 _ _ _ _ _ _ _ _ _)
      | (with_reducible exact ih4 _ _ _ _ _ _ _ _ _ _ _ _)
      | (with_reducible exact ih5 _ _ _ _ _ _ _ _ _ _ _)
      | (with_reducible exact arraslaw0_Numbers.mono _ _)
      | (with_reducible exact arraslaw21_wakes.mono _)
      | (with_reducible exact arrasref0_CopyNumbers.mono _ _)
      | (with_reducible exact arrasref0_EqNumbers.mono _ _ _)
      | (with_reducible exact arrasref19_Justify.mono _ _ _ _ _)
      | (with_reducible exact arrasref19_MayJustify.mono _ _ _ _ _)
      | (with_reducible exact arrasref19_Sizes.mono _ _ _ _)
      | (with_reducible exact arrasref19_Stack.mono _ _ _)
      | (with_reducible exact place_Justify.mono _ _ _ _ _)
      | (with_reducible exact place_Stack.mono _ _ _)
      | (with_reducible exact LeO.refl _)
      | (with_reducible exact LeO.none _)
      | (with_reducible refine LeO.ite ?_ ?_)
      | (with_reducible refine LeO.bind ?_ (fun _ => ?_))
      | exact ih0 _ _
      | exact ih1 _ _ _
      | exact ih2 _ _ _ _ _ _ _ _
      | exact ih3 _ _ _ _ _ _ _ _ _
      | exact ih4 _ _ _ _ _ _ _ _ _ _ _ _
      | exact ih5 _ _ _ _ _ _ _ _ _ _ _
      | exact arraslaw0_Numbers.mono _ _
      | exact arraslaw21_wakes.mono _
      | exact arrasref0_CopyNumbers.mono _ _
      | exact arrasref0_EqNumbers.mono _ _ _
      | exact arrasref19_Justify.mono _ _ _ _ _
      | exact arrasref19_MayJustify.mono _ _ _ _ _
      | exact arrasref19_Sizes.mono _ _ _ _
      | exact arrasref19_Stack.mono _ _ _
      | exact place_Justify.mono _ _ _ _ _
      | exact place_Stack.mono _ _ _
      | exact LeO.none _
      | refine LeO.ite ?_ ?_
      | refine LeO.bind ?_ (fun _ => ?_)
    · intro y0 y1 y2 y3 y4 y5 y6 y7 y8
      unfold arraslaw21_PlaceJustifies.j3
      repeat' first
      | (with_reducible exact ih0 _ _)
      | (with_reducible exact ih1 _ _ _)
      | (with_reducible exact ih2 _ _ _ _ _ _ _ _)
      | (with_reducible exact ih3 _ _ _ _ _ _ _ _ _)
      | (with_reducible exact ih4 _ _ _ _ _ _ _ _ _ _ _ _)
      | (with_reducible exact ih5 _ _ _ _ _ _ _ _ _ _ _)
      | (with_reducible exact arraslaw0_Numbers.mono _ _)
      | (with_reducible exact arraslaw21_wakes.mono _)
      | (with_reducible exact arrasref0_CopyNumbers.mono _ _)
      | (with_reducible exact arrasref0_EqNumbers.mono _ _ _)
      | (with_reducible exact arrasref19_Justify.mono _ _ _ _ _)
      | (with_reducible exact arrasref19_MayJustify.mono _ _ _ _ _)
      | (with_reducible exact arrasref19_Sizes.mono _ _ _ _)
      | (with_reducible exact arrasref19_Stack.mono _ _ _)
      | (with_reducible exact place_Justify.mono _ _ _ _ _)
      | (with_reducible exact place_Stack.mono _ _ _)
      | (with_reducible exact LeO.refl _)
      | (with_reducible exact LeO.none _)
      | (with_reducible refine LeO.ite ?_ ?_)
      | (with_reducible refine LeO.bind ?_ (fun _ => ?_))
      | exact ih0 _ _
      | exact ih1 _ _ _
      | exact ih2 _ _ _ _ _ _ _ _
      | exact ih3 _ _ _ _ _ _ _ _ _
      | exact ih4 _ _ _ _ _ _ _ _ _ _ _ _
      | exact ih5 _ _ _ _ _ _ _ _ _ _ _
      | exact arraslaw0_Numbers.mono _ _
      | exact arraslaw21_wakes.mono _
      | exact arrasref0_CopyNumbers.mono _ _
      | exact arrasref0_EqNumbers.mono _ _ _
      | exact arrasref19_Justify.mono _ _ _ _ _
      | exact arrasref19_MayJustify.mono _ _ _ _ _
      | exact arrasref19_Sizes.mono _ _ _ _
      | exact arrasref19_Stack.mono _ _ _
      | exact place_Justify.mono _ _ _ _ _
      | exact place_Stack.mono _ _ _
      | exact LeO.none _
      | refine LeO.ite ?_ ?_
      | refine LeO.bind ?_ (fun _ => ?_)
    · intro y0 y1 y2 y3 y4 y5 y6 y7 y8 y9 y10 y11
      unfold arraslaw21_PlaceJustifies.j4
      repeat' first
      | (with_reducible exact ih0 _ _)
      | (with_reducible exact ih1 _ _ _)
      | (with_reducible exact ih2 _ _ _ _ _ _ _ _)
      | (with_reducible exact ih3 _ _ _ _ _ _ _ _ _)
      | (with_reducible exact ih4 _ _ _ _ _ _ _ _ _ _ _ _)
      | (with_reducible exact ih5 _ _ _ _ _ _ _ _ _ _ _)
      | (with_reducible exact arraslaw0_Numbers.mono _ _)
      | (with_reducible exact arraslaw21_wakes.mono _)
      | (with_reducible exact arrasref0_CopyNumbers.mono _ _)
      | (with_reducible exact arrasref0_EqNumbers.mono _ _ _)
      | (with_reducible exact arrasref19_Justify.mono _ _ _ _ _)
      | (with_reducible exact arrasref19_MayJustify.mono _ _ _ _ _)
      | (with_reducible exact arrasref19_Sizes.mono _ _ _ _)
      | (with_reducible exact arrasref19_Stack.mono _ _ _)
      | (with_reducible exact place_Justify.mono _ _ _ _ _)
      | (with_reducible exact place_Stack.mono _ _ _)
      | (with_reducible exact LeO.refl _)
      | (with_reducible exact LeO.none _)
      | (with_reducible refine LeO.ite ?_ ?_)
      | (with_reducible refine LeO.bind ?_ (fun _ => ?_))
      | exact ih0 _ _
      | exact ih1 _ _ _
      | exact ih2 _ _ _ _ _ _ _ _
      | exact ih3 _ _ _ _ _ _ _ _ _
      | exact ih4 _ _ _ _ _ _ _ _ _ _ _ _
      | exact ih5 _ _ _ _ _ _ _ _ _ _ _
      | exact arraslaw0_Numbers.mono _ _
      | exact arraslaw21_wakes.mono _
      | exact arrasref0_CopyNumbers.mono _ _
      | exact arrasref0_EqNumbers.mono _ _ _
      | exact arrasref19_Justify.mono _ _ _ _ _
      | exact arrasref19_MayJustify.mono _ _ _ _ _
      | exact arrasref19_Sizes.mono _ _ _ _
      | exact arrasref19_Stack.mono _ _ _
      | exact place_Justify.mono _ _ _ _ _
      | exact place_Stack.mono _ _ _
      | exact LeO.none _
      | refine LeO.ite ?_ ?_
      | refine LeO.bind ?_ (fun _ => ?_)
    · intro y0 y1 y2 y3 y4 y5 y6 y7 y8 y9 y10
      unfold arraslaw21_PlaceJustifies.j5
      repeat' first
      | (with_reducible exact ih0 _ _)
      | (with_reducible exact ih1 _ _ _)
      | (with_reducible exact ih2 _ _ _ _ _ _ _ _)
      | (with_reducible exact ih3 _ _ _ _ _ _ _ _ _)
      | (with_reducible exact ih4 _ _ _ _ _ _ _ _ _ _ _ _)
      | (with_reducible exact ih5 _ _ _ _ _ _ _ _ _ _ _)
      | (with_reducible exact arraslaw0_Numbers.mono _ _)
      | (with_reducible exact arraslaw21_wakes.mono _)
      | (with_reducible exact arrasref0_CopyNumbers.mono _ _)
      | (with_reducible exact arrasref0_EqNumbers.mono _ _ _)
      | (with_reducible exact arrasref19_Justify.mono _ _ _ _ _)
      | (with_reducible exact arrasref19_MayJustify.mono _ _ _ _ _)
      | (with_reducible exact arrasref19_Sizes.mono _ _ _ _)
      | (with_reducible exact arrasref19_Stack.mono _ _ _)
      | (with_reducible exact place_Justify.mono _ _ _ _ _)
      | (with_reducible exact place_Stack.mono _ _ _)
      | (with_reducible exact LeO.refl _)
      | (with_reducible exact LeO.none _)
      | (with_reducible refine LeO.ite ?_ ?_)
      | (with_reducible refine LeO.bind ?_ (fun _ => ?_))
      | exact ih0 _ _
      | exact ih1 _ _ _
      | exact ih2 _ _ _ _ _ _ _ _
      | exact ih3 _ _ _ _ _ _ _ _ _
      | exact ih4 _ _ _ _ _ _ _ _ _ _ _ _
      | exact ih5 _ _ _ _ _ _ _ _ _ _ _
      | exact arraslaw0_Numbers.mono _ _
      | exact arraslaw21_wakes.mono _
      | exact arrasref0_CopyNumbers.mono _ _
      | exact arrasref0_EqNumbers.mono _ _ _
      | exact arrasref19_Justify.mono _ _ _ _ _
      | exact arrasref19_MayJustify.mono _ _ _ _ _
      | exact arrasref19_Sizes.mono _ _ _ _
      | exact arrasref19_Stack.mono _ _ _
      | exact place_Justify.mono _ _ _ _ _
      | exact place_Stack.mono _ _ _
      | exact LeO.none _
      | refine LeO.ite ?_ ?_
      | refine LeO.bind ?_ (fun _ => ?_)
theorem arraslaw21_PlaceJustifies.mono : ∀ a0 k, LeO (arraslaw21_PlaceJustifies.f k a0) (arraslaw21_PlaceJustifies.f (k + 1) a0) := by
  intro a0 k
  obtain ⟨ih0, ih1, ih2, ih3, ih4, ih5⟩ := arraslaw21_PlaceJustifies.mono_l k
  unfold arraslaw21_PlaceJustifies.f
  repeat' first
      | (with_reducible exact ih0 _ _)
      | (with_reducible exact ih1 _ _ _)
      | (with_reducible exact ih2 _ _ _ _ _ _ _ _)
      | (with_reducible exact ih3 _ _ _ _ _ _ _ _ _)
      | (with_reducible exact ih4 _ _ _ _ _ _ _ _ _ _ _ _)
      | (with_reducible exact ih5 _ _ _ _ _ _ _ _ _ _ _)
      | (with_reducible exact arraslaw0_Numbers.mono _ _)
      | (with_reducible exact arraslaw21_wakes.mono _)
      | (with_reducible exact arrasref0_CopyNumbers.mono _ _)
      | (with_reducible exact arrasref0_EqNumbers.mono _ _ _)
      | (with_reducible exact arrasref19_Justify.mono _ _ _ _ _)
      | (with_reducible exact arrasref19_MayJustify.mono _ _ _ _ _)
      | (with_reducible exact arrasref19_Sizes.mono _ _ _ _)
      | (with_reducible exact arrasref19_Stack.mono _ _ _)
      | (with_reducible exact place_Justify.mono _ _ _ _ _)
      | (with_reducible exact place_Stack.mono _ _ _)
      | (with_reducible exact LeO.refl _)
      | (with_reducible exact LeO.none _)
      | (with_reducible refine LeO.ite ?_ ?_)
      | (with_reducible refine LeO.bind ?_ (fun _ => ?_))
      | exact ih0 _ _
      | exact ih1 _ _ _
      | exact ih2 _ _ _ _ _ _ _ _
      | exact ih3 _ _ _ _ _ _ _ _ _
      | exact ih4 _ _ _ _ _ _ _ _ _ _ _ _
      | exact ih5 _ _ _ _ _ _ _ _ _ _ _
      | exact arraslaw0_Numbers.mono _ _
      | exact arraslaw21_wakes.mono _
      | exact arrasref0_CopyNumbers.mono _ _
      | exact arrasref0_EqNumbers.mono _ _ _
      | exact arrasref19_Justify.mono _ _ _ _ _
      | exact arrasref19_MayJustify.mono _ _ _ _ _
      | exact arrasref19_Sizes.mono _ _ _ _
      | exact arrasref19_Stack.mono _ _ _
      | exact place_Justify.mono _ _ _ _ _
      | exact place_Stack.mono _ _ _
      | exact LeO.none _
      | refine LeO.ite ?_ ?_
      | refine LeO.bind ?_ (fun _ => ?_)
set_option maxHeartbeats 8000000 in
set_option maxRecDepth 100000 in
theorem arraslaw21_PlaceJustifies.calls (k : Nat) (A0 : Option Addr) (c0 : Nat) (l0 : List (S27)) (r : Bool) (w : World) (hr0 : Kd.C k27 w A0 l0.length l0) (hc0 : l0.length ≤ c0) (h : arraslaw21_PlaceJustifies.f k l0 = some r) :
    Calls Try.prog 8 #[.slice A0 l0.length c0] w fun e w' => e = .returned (.bool r) ∧ Below w.heap.size w w' := by
  have hu27 := Try.underlying27
  have HR0 := Aside0.mk hr0
  have HC0 := Aside0.mk hc0
  clear hr0 hc0
  have HB := Aside0.mk (Below.refl w.heap.size w)
  have H : (arraslaw21_PlaceJustifies.l0 k l0 0) = some r := h
  clear h
  have H' := Aside0.mk H
  clear H
  go_enter Try.func8, Try.ntmps8
  go_wp2
  go_loopg [3] k (fun kq v3 w' => ∃ (x3_1 : Int), v3 = .int .i64 x3_1 ∧ Aside0 (arraslaw21_PlaceJustifies.l0 kq l0 x3_1 = some r) ∧ Aside0 (kq ≤ k) ∧ Aside0 (Below w.heap.size w w'))
  case atStart => exact ⟨(0), (by first | rfl | (simp; done) | (simp [*]; done)), H', ⟨Nat.le_refl _⟩, ⟨by repeat (first | (with_reducible first | exact HB.out | apply below_alloc | apply pw_below_drewN | apply below_drew1) | exact HB.out)⟩⟩
  case round =>
    clear H'
    obtain ⟨x3_1, rfl, HA, HK1, HB⟩ := hrel
    cases gk with
    | zero => exact absurd HA.out (by simp [arraslaw21_PlaceJustifies.l0])
    | succ k1 =>
      have H := HA.out
      clear HA
      simp only [arraslaw21_PlaceJustifies.l0] at H
      have HC2 := Aside0.mk H
      clear H
      go_upto_region 2 with (fail)
      go_cut [23] (fun v23 wc => ∃ (kq : Nat) (x23_1 : Bool), v23 = .bool x23_1 ∧ Aside0 (arraslaw21_PlaceJustifies.j1 kq l0 x3_1 x23_1 = some r) ∧ Aside0 (kq ≤ k1) ∧ Aside0 (Below w.heap.size w wc))
      case first =>
        have H := HC2.out
        clear HC2
        by_cases c3 : x3_1 < (l0.length : Int)
        · rw [if_pos c3] at H
          have c3b0 : decide (x3_1 < (l0.length : Int)) = true := decide_eq_true c3
          clear c3
          (first | rw [c3b0] | (simp only [i64_w, i32_w]; rw [c3b0]) | skip)
          have H' := Aside0.mk H
          clear H
          go_wp2
          go_meet
          case rel => exact ⟨_, (decide (x3_1 < 12)), (by first | rfl | (simp; done) | (simp [*]; done)), H', ⟨by have := HK1.out; first | omega | exact Nat.le_refl _⟩, ⟨by repeat (first | (with_reducible first | exact HB.out | apply below_alloc | apply pw_below_drewN | apply below_drew1) | exact HB.out)⟩⟩
        · rw [if_neg c3] at H
          have c3b0 : decide (x3_1 < (l0.length : Int)) = false := decide_eq_false c3
          clear c3
          (first | rw [c3b0] | (simp only [i64_w, i32_w]; rw [c3b0]) | skip)
          have H' := Aside0.mk H
          clear H
          go_wp2
          go_meet
          case rel => exact ⟨_, (false), (by first | rfl | (simp; done) | (simp [*]; done)), H', ⟨by have := HK1.out; first | omega | exact Nat.le_refl _⟩, ⟨by repeat (first | (with_reducible first | exact HB.out | apply below_alloc | apply pw_below_drewN | apply below_drew1) | exact HB.out)⟩⟩
      case rest =>
        clear HC2
        try clear p2
        try clear c3
        try clear c3b0
        obtain ⟨kq, x23_1, rfl, HA, HJ1, HB⟩ := hcut
        cases kq with
        | zero => exact absurd HA.out (by simp [arraslaw21_PlaceJustifies.j1])
        | succ kj1 =>
          have H := HA.out
          clear HA
          simp only [arraslaw21_PlaceJustifies.j1] at H
          by_cases c4 : x23_1 = true
          · subst c4
            have H1 : (if 0 ≤ x3_1 then (if x3_1 < (l0.length : Int) then (if (((rd_T27 l0 x3_1).f0).length : Int) > 1500 then (some true) else ((arrasref0_CopyNumbers.f kj1 ((rd_T27 l0 x3_1).f0)).bind fun t231 => (arraslaw21_PlaceJustifies.l1 kj1 l0 x3_1 t231 (-1) ((rd_T27 l0 x3_1).f0) ((rd_T27 l0 x3_1).f1) ((rd_T27 l0 x3_1).f2) ((rd_T27 l0 x3_1).f3)))) else (none)) else (none)) = some r := by rw [if_pos rfl] at H; exact H
            clear H
            have H := H1
            clear H1
            by_cases c5 : 0 ≤ x3_1
            · rw [if_pos c5] at H
              have c5b0 : decide (0 ≤ x3_1) = true := decide_eq_true c5
              clear c5
              by_cases c6 : x3_1 < (l0.length : Int)
              · rw [if_pos c6] at H
                have c6b0 : decide (x3_1 < (l0.length : Int)) = true := decide_eq_true c6
                clear c6
                by_cases c7 : (((rd_T27 l0 x3_1).f0).length : Int) > 1500
                · rw [if_pos c7] at H
                  have c7b0 : decide (1500 < (((rd_T27 l0 x3_1).f0).length : Int)) = true := decide_eq_true c7
                  have c7b1 : decide (1500 < ((rd_T27 l0 x3_1).f0).length) = true := decide_eq_true (by omega)
                  clear c7
                  obtain rfl := Option.some.inj H
                  have p229 : 0 ≤ (x3_1 : Int) := of_decide_eq_true (by first | (with_reducible assumption) | assumption)
                  have q229 : x3_1 < (l0.length : Int) := of_decide_eq_true (by first | (with_reducible assumption) | assumption)
                  obtain ⟨ad229, A229_0, c229_0, e229, hx229_0, hx229_1, hx229_2, hx229_3, hl229_0, hi229_0⟩ := at_T27 HR0.out x3_1 p229 q229
                  cases e229
                  replace hx229_0 := (HB.out.cell (World.block_lt_of_cell? w _ hx229_0)).trans hx229_0
                  replace hx229_1 := (HB.out.cell (World.block_lt_of_cell? w _ hx229_1)).trans hx229_1
                  replace hx229_2 := (HB.out.cell (World.block_lt_of_cell? w _ hx229_2)).trans hx229_2
                  replace hx229_3 := (HB.out.cell (World.block_lt_of_cell? w _ hx229_3)).trans hx229_3
                  have HR229_0 := Aside0.mk hi229_0
                  have HC229_0 := Aside0.mk hl229_0
                  clear hi229_0 hl229_0
                  replace p229 := eq_true p229
                  replace q229 := eq_true q229
                  go_wp2_with (first | ((with_reducible refine gate_dst (N := 4) rfl ?_); refine box_event ?hg (N := 4) ?hd (cs := #[.slice none 0 0, .int .i64 0, .int .i64 0, .int .i64 0]) (t := 27) ?hr ?_; (case hd => rfl); (case hg => rfl); (case hr => first | (go_simp; done) | (go_simp; rfl)); intro gb230 hg w8 hbox hb; have n0_ := Aside0.mk (below_step (by repeat (first | (with_reducible first | exact HB.out | apply below_alloc | apply pw_below_drewN | apply below_drew1) | exact HB.out)) hb); have n1_ := Aside0.mk (hbox); have n2_ := Aside0.mk ((by rw [hg]; exact (below_size (by repeat (first | (with_reducible first | exact HB.out | apply below_alloc | apply pw_below_drewN | apply below_drew1) | exact HB.out))) : w.heap.size ≤ gb230)); have n3_ := Aside0.mk ((by rw [hg]; exact (below_size (by repeat (first | (with_reducible first | exact HB.out | apply below_alloc | apply pw_below_drewN | apply below_drew1) | exact HB.out))) : w.heap.size ≤ gb230)); clear HB; have HB := n0_; have BK230 := n1_; have GW230 := n2_; have GE230 := n3_; clear n0_ n1_ n2_ n3_; clear hb hbox hg; have hcz9_0 : w8.cell? ⟨gb230, 0, none⟩ = some (.slice none 0 0) := (blk_cell BK230.out 0).trans rfl; have hcz9_1 : w8.cell? ⟨gb230, 1, none⟩ = some (.int .i64 0) := (blk_cell BK230.out 1).trans rfl; have hcz9_2 : w8.cell? ⟨gb230, 2, none⟩ = some (.int .i64 0) := (blk_cell BK230.out 2).trans rfl; have hcz9_3 : w8.cell? ⟨gb230, 3, none⟩ = some (.int .i64 0) := (blk_cell BK230.out 3).trans rfl; have hfz9_0 := blk_frozen BK230.out 0; have hfz9_1 := blk_frozen BK230.out 1; have hfz9_2 := blk_frozen BK230.out 2; have hfz9_3 := blk_frozen BK230.out 3))
                  go_ret
                  exact ⟨by first | rfl | (simp [errW_none, errW_some] <;> rfl) | (simp [*, errW_none, errW_some] <;> rfl), by repeat (first | (with_reducible first | exact HB.out | apply below_alloc | apply pw_below_drewN | apply below_drew1 | refine below_set ?_ GE230.out) | exact HB.out)⟩
                · rw [if_neg c7] at H
                  have c7b0 : decide (1500 < (((rd_T27 l0 x3_1).f0).length : Int)) = false := decide_eq_false c7
                  have c7b1 : decide (1500 < ((rd_T27 l0 x3_1).f0).length) = false := decide_eq_false (by omega)
                  clear c7
                  replace H := Option.bind_eq_some_iff.mp H
                  obtain ⟨t231, A100, H⟩ := H
                  replace H : (arraslaw21_PlaceJustifies.l1 kj1 l0 x3_1 t231 (-1) ((rd_T27 l0 x3_1).f0) ((rd_T27 l0 x3_1).f1) ((rd_T27 l0 x3_1).f2) ((rd_T27 l0 x3_1).f3)) = some r := H
                  have A10 := Aside0.mk A100
                  clear A100
                  have H' := Aside0.mk H
                  clear H
                  have p229 : 0 ≤ (x3_1 : Int) := of_decide_eq_true (by first | (with_reducible assumption) | assumption)
                  have q229 : x3_1 < (l0.length : Int) := of_decide_eq_true (by first | (with_reducible assumption) | assumption)
                  obtain ⟨ad229, A229_0, c229_0, e229, hx229_0, hx229_1, hx229_2, hx229_3, hl229_0, hi229_0⟩ := at_T27 HR0.out x3_1 p229 q229
                  cases e229
                  replace hx229_0 := (HB.out.cell (World.block_lt_of_cell? w _ hx229_0)).trans hx229_0
                  replace hx229_1 := (HB.out.cell (World.block_lt_of_cell? w _ hx229_1)).trans hx229_1
                  replace hx229_2 := (HB.out.cell (World.block_lt_of_cell? w _ hx229_2)).trans hx229_2
                  replace hx229_3 := (HB.out.cell (World.block_lt_of_cell? w _ hx229_3)).trans hx229_3
                  have HR229_0 := Aside0.mk hi229_0
                  have HC229_0 := Aside0.mk hl229_0
                  clear hi229_0 hl229_0
                  replace p229 := eq_true p229
                  replace q229 := eq_true q229
                  go_wp2_with (first | ((with_reducible refine gate_dst (N := 4) rfl ?_); refine box_event ?hg (N := 4) ?hd (cs := #[.slice none 0 0, .int .i64 0, .int .i64 0, .int .i64 0]) (t := 27) ?hr ?_; (case hd => rfl); (case hg => rfl); (case hr => first | (go_simp; done) | (go_simp; rfl)); intro gb230 hg w11 hbox hb; have n0_ := Aside0.mk (below_step (by repeat (first | (with_reducible first | exact HB.out | apply below_alloc | apply pw_below_drewN | apply below_drew1) | exact HB.out)) hb); have n1_ := Aside0.mk (hbox); have n2_ := Aside0.mk ((by rw [hg]; exact (below_size (by repeat (first | (with_reducible first | exact HB.out | apply below_alloc | apply pw_below_drewN | apply below_drew1) | exact HB.out))) : w.heap.size ≤ gb230)); have n3_ := Aside0.mk ((by rw [hg]; exact (below_size (by repeat (first | (with_reducible first | exact HB.out | apply below_alloc | apply pw_below_drewN | apply below_drew1) | exact HB.out))) : w.heap.size ≤ gb230)); clear HB; have HB := n0_; have BK230 := n1_; have GW230 := n2_; have GE230 := n3_; clear n0_ n1_ n2_ n3_; clear hb hbox hg; have hcz12_0 : w11.cell? ⟨gb230, 0, none⟩ = some (.slice none 0 0) := (blk_cell BK230.out 0).trans rfl; have hcz12_1 : w11.cell? ⟨gb230, 1, none⟩ = some (.int .i64 0) := (blk_cell BK230.out 1).trans rfl; have hcz12_2 : w11.cell? ⟨gb230, 2, none⟩ = some (.int .i64 0) := (blk_cell BK230.out 2).trans rfl; have hcz12_3 : w11.cell? ⟨gb230, 3, none⟩ = some (.int .i64 0) := (blk_cell BK230.out 3).trans rfl; have hfz12_0 := blk_frozen BK230.out 0; have hfz12_1 := blk_frozen BK230.out 1; have hfz12_2 := blk_frozen BK230.out 2; have hfz12_3 := blk_frozen BK230.out 3) | ((with_reducible refine gate_callee (f := 16) rfl ?_); refine goesL_ (some 36) rfl rfl Try.func16 (by kernel_rfl) rfl #[.slice A229_0 ((rd_T27 l0 x3_1).f0).length c229_0] rfl (by (try simp only [List.map_toArray, List.map_cons, List.map_nil]); first | done | rfl | (simp only [List.length_drop, List.length_take]; rfl)) ?_; (with_reducible refine (arrasref0_CopyNumbers.calls kj1 _ _ ((rd_T27 l0 x3_1).f0) t231 _ ?side1 ?side2 A10.out).mono ?_); (case side1 => exact Kd.C_below HR229_0.out (by repeat (first | (with_reducible first | exact HB.out | apply below_alloc | apply pw_below_drewN | apply below_drew1 | refine below_set ?_ GE230.out) | exact HB.out))); (case side2 => exact HC229_0.out); rintro e w13 ⟨v232, rfl, ho0, hb⟩; refine ⟨_, rfl, ?_⟩; have n0_ := Aside0.mk (Kd.R_lower ho0 (below_size (by repeat (first | (with_reducible first | exact HB.out | apply below_alloc | apply pw_below_drewN | apply below_drew1 | refine below_set ?_ GE230.out) | exact HB.out)))); have n1_ := Aside0.mk (blk_below (g := gb230) (o := .cells #[.slice A229_0 ((rd_T27 l0 x3_1).f0).length c229_0, .int .i64 ((rd_T27 l0 x3_1).f1), .int .i64 ((rd_T27 l0 x3_1).f2), .int .i64 ((rd_T27 l0 x3_1).f3)] 27 (0, 0)) (by (with_reducible repeat (first | refine blk_drewN ?_ _ | refine blk_drew ?_ | refine blk_alloc ?_ _)); refine blk_put (cs := #[.slice A229_0 ((rd_T27 l0 x3_1).f0).length c229_0, .int .i64 ((rd_T27 l0 x3_1).f1), .int .i64 ((rd_T27 l0 x3_1).f2), .int .i64 0]) ?_ 3 _ rfl; (with_reducible repeat (first | refine blk_drewN ?_ _ | refine blk_drew ?_ | refine blk_alloc ?_ _)); refine blk_put (cs := #[.slice A229_0 ((rd_T27 l0 x3_1).f0).length c229_0, .int .i64 ((rd_T27 l0 x3_1).f1), .int .i64 0, .int .i64 0]) ?_ 2 _ rfl; (with_reducible repeat (first | refine blk_drewN ?_ _ | refine blk_drew ?_ | refine blk_alloc ?_ _)); refine blk_put (cs := #[.slice A229_0 ((rd_T27 l0 x3_1).f0).length c229_0, .int .i64 0, .int .i64 0, .int .i64 0]) ?_ 1 _ rfl; (with_reducible repeat (first | refine blk_drewN ?_ _ | refine blk_drew ?_ | refine blk_alloc ?_ _)); refine blk_put (cs := #[.slice none 0 0, .int .i64 0, .int .i64 0, .int .i64 0]) ?_ 0 _ rfl; (with_reducible repeat (first | refine blk_drewN ?_ _ | refine blk_drew ?_ | refine blk_alloc ?_ _)); exact BK230.out) hb); have n2_ := Aside0.mk (below_step (by repeat (first | (with_reducible first | exact HB.out | apply below_alloc | apply pw_below_drewN | apply below_drew1 | refine below_set ?_ GE230.out) | exact HB.out)) hb); clear BK230; clear HB; have HO233 := n0_; have BK230 := n1_; have HB := n2_; clear n0_ n1_ n2_; (try clear hb); (try clear hb2); (try clear hk); (try clear hi); (try clear ho0)))
                  go_loopg [6] kj1 (fun kq v6 w' => ∃ (x6_3 : Int), v6 = .int .i64 x6_3 ∧ Aside0 (arraslaw21_PlaceJustifies.l1 kq l0 x3_1 t231 x6_3 ((rd_T27 l0 x3_1).f0) ((rd_T27 l0 x3_1).f1) ((rd_T27 l0 x3_1).f2) ((rd_T27 l0 x3_1).f3) = some r) ∧ Aside0 (kq ≤ kj1) ∧ Aside0 (Kd.R (Kd.int .i64) 3 w' w.heap.size (fun _ => True) v232 t231) ∧ Aside0 (w'.heap[gb230]? = some (.cells #[(.slice A229_0 ((rd_T27 l0 x3_1).f0).length c229_0), .int .i64 ((rd_T27 l0 x3_1).f1), .int .i64 ((rd_T27 l0 x3_1).f2), .int .i64 ((rd_T27 l0 x3_1).f3)] 27 (0, 0))) ∧ Aside0 (Below w.heap.size w w'))
                  case atStart => exact ⟨((-1)), (by first | rfl | (simp; done) | (simp [*]; done)), H', ⟨Nat.le_refl _⟩, ⟨by (with_reducible repeat (first | apply Kd.R_alloc | apply Kd.R_drewN | apply Kd.R_drew)); exact HO233.out⟩, ⟨by (with_reducible repeat (first | refine blk_drewN ?_ _ | refine blk_drew ?_ | refine blk_alloc ?_ _)); exact BK230.out⟩, ⟨by repeat (first | (with_reducible first | exact HB.out | apply below_alloc | apply pw_below_drewN | apply below_drew1 | refine below_set ?_ GE230.out) | exact HB.out)⟩⟩
                  case round =>
                    clear H'
                    try clear c1
                    try clear c2
                    try clear p2
                    try clear q2
                    try clear hx2
                    try clear c3
                    try clear c3b0
                    try clear c4
                    try clear c5
                    try clear c5b0
                    try clear c6
                    try clear c6b0
                    try clear c7
                    try clear c7b0
                    try clear c7b1
                    try clear c8
                    try clear hcz12_0
                    try clear hcz12_1
                    try clear hcz12_2
                    try clear hcz12_3
                    try clear hcz9_0
                    try clear hcz9_1
                    try clear hcz9_2
                    try clear hcz9_3
                    try clear hfz12_0
                    try clear hfz12_1
                    try clear hfz12_2
                    try clear hfz12_3
                    try clear hfz9_0
                    try clear hfz9_1
                    try clear hfz9_2
                    try clear hfz9_3
                    try clear hx229_0
                    try clear hx229_1
                    try clear hx229_2
                    try clear hx229_3
                    try clear p2
                    try clear p229
                    try clear q229
                    obtain ⟨x6_3, rfl, HA, HK3, HO_5, BK230, HB⟩ := hrel
                    cases gk with
                    | zero => exact absurd HA.out (by simp [arraslaw21_PlaceJustifies.l1])
                    | succ k3 =>
                      have H := HA.out
                      clear HA
                      simp only [arraslaw21_PlaceJustifies.l1] at H
                      by_cases c14 : x6_3 ≤ 5
                      · rw [if_pos c14] at H
                        have c14b0 : decide (x6_3 ≤ 5) = true := decide_eq_true c14
                        clear c14
                        have HC15 := Aside0.mk H
                        clear H
                        go_upto_if 43 with (fail)
                        go_cut [7] (fun v7 wc => ∃ (kq : Nat) (x7_14 : Int), v7 = .int .i64 x7_14 ∧ Aside0 (arraslaw21_PlaceJustifies.j3 kq l0 x3_1 t231 x6_3 x7_14 ((rd_T27 l0 x3_1).f0) ((rd_T27 l0 x3_1).f1) ((rd_T27 l0 x3_1).f2) ((rd_T27 l0 x3_1).f3) = some r) ∧ Aside0 (kq ≤ k3) ∧ Aside0 (Kd.R (Kd.int .i64) 3 wc w.heap.size (fun _ => True) v232 t231) ∧ Aside0 (wc.heap[gb230]? = some (.cells #[(.slice A229_0 ((rd_T27 l0 x3_1).f0).length c229_0), .int .i64 ((rd_T27 l0 x3_1).f1), .int .i64 ((rd_T27 l0 x3_1).f2), .int .i64 ((rd_T27 l0 x3_1).f3)] 27 (0, 0))) ∧ Aside0 (Below w.heap.size w wc))
                        case first =>
                          have H := HC15.out
                          clear HC15
                          by_cases c16 : x6_3 = 5
                          · rw [if_pos c16] at H
                            have c16b0 : (x6_3 == 5) = true := beq_iff_eq.mpr c16
                            have c16b1 : (x6_3 != 5) = false := bne_eq_false_iff_eq.mpr c16
                            clear c16
                            (first | rw [c16b0] | (simp only [i64_w, i32_w]; rw [c16b0]) | skip)
                            have H' := Aside0.mk H
                            clear H
                            have hcz17_0 : wr.cell? ⟨gb230, 0, none⟩ = some (.slice A229_0 ((rd_T27 l0 x3_1).f0).length c229_0) := (blk_cell BK230.out 0).trans rfl
                            have hcz17_1 : wr.cell? ⟨gb230, 1, none⟩ = some (.int .i64 ((rd_T27 l0 x3_1).f1)) := (blk_cell BK230.out 1).trans rfl
                            have hcz17_2 : wr.cell? ⟨gb230, 2, none⟩ = some (.int .i64 ((rd_T27 l0 x3_1).f2)) := (blk_cell BK230.out 2).trans rfl
                            have hcz17_3 : wr.cell? ⟨gb230, 3, none⟩ = some (.int .i64 ((rd_T27 l0 x3_1).f3)) := (blk_cell BK230.out 3).trans rfl
                            have hfz17_0 := blk_frozen BK230.out 0
                            have hfz17_1 := blk_frozen BK230.out 1
                            have hfz17_2 := blk_frozen BK230.out 2
                            have hfz17_3 := blk_frozen BK230.out 3
                            go_wp2
                            go_meet
                            case rel => exact ⟨_, (((rd_T27 l0 x3_1).f3)), (by first | rfl | (simp; done) | (simp [*]; done)), H', ⟨by have := HK1.out; have := HJ1.out; have := HK3.out; first | omega | exact Nat.le_refl _⟩, ⟨by (with_reducible repeat (first | apply Kd.R_alloc | apply Kd.R_drewN | apply Kd.R_drew)); exact HO_5.out⟩, ⟨by (with_reducible repeat (first | refine blk_drewN ?_ _ | refine blk_drew ?_ | refine blk_alloc ?_ _)); exact BK230.out⟩, ⟨by repeat (first | (with_reducible first | exact HB.out | apply below_alloc | apply pw_below_drewN | apply below_drew1 | refine below_set ?_ GE230.out) | exact HB.out)⟩⟩
                          · rw [if_neg c16] at H
                            have c16b0 : (x6_3 == 5) = false := beq_eq_false_iff_ne.mpr c16
                            have c16b1 : (x6_3 != 5) = true := bne_iff_ne.mpr c16
                            (first | rw [c16b0] | (simp only [i64_w, i32_w]; rw [c16b0]) | skip)
                            have H' := Aside0.mk H
                            clear H
                            go_wp2
                            go_meet
                            case rel => exact ⟨_, (x6_3), (by first | rfl | (simp; done) | (simp [*]; done)), H', ⟨by have := HK1.out; have := HJ1.out; have := HK3.out; first | omega | exact Nat.le_refl _⟩, ⟨by (with_reducible repeat (first | apply Kd.R_alloc | apply Kd.R_drewN | apply Kd.R_drew)); exact HO_5.out⟩, ⟨by (with_reducible repeat (first | refine blk_drewN ?_ _ | refine blk_drew ?_ | refine blk_alloc ?_ _)); exact BK230.out⟩, ⟨by repeat (first | (with_reducible first | exact HB.out | apply below_alloc | apply pw_below_drewN | apply below_drew1 | refine below_set ?_ GE230.out) | exact HB.out)⟩⟩
                        case rest =>
                          clear HC15
                          try clear c1
                          try clear c2
                          try clear p2
                          try clear q2
                          try clear hx2
                          try clear c3
                          try clear c3b0
                          try clear c4
                          try clear c5
                          try clear c5b0
                          try clear c6
                          try clear c6b0
                          try clear c7
                          try clear c7b0
                          try clear c7b1
                          try clear c8
                          try clear c14
                          try clear c14b0
                          try clear c16
                          try clear c16b0
                          try clear c16b1
                          try clear hcz12_0
                          try clear hcz12_1
                          try clear hcz12_2
                          try clear hcz12_3
                          try clear hcz17_0
                          try clear hcz17_1
                          try clear hcz17_2
                          try clear hcz17_3
                          try clear hcz9_0
                          try clear hcz9_1
                          try clear hcz9_2
                          try clear hcz9_3
                          try clear hfz12_0
                          try clear hfz12_1
                          try clear hfz12_2
                          try clear hfz12_3
                          try clear hfz17_0
                          try clear hfz17_1
                          try clear hfz17_2
                          try clear hfz17_3
                          try clear hfz9_0
                          try clear hfz9_1
                          try clear hfz9_2
                          try clear hfz9_3
                          try clear hx229_0
                          try clear hx229_1
                          try clear hx229_2
                          try clear hx229_3
                          try clear p2
                          try clear p229
                          try clear q2
                          try clear q229
                          obtain ⟨kq, x7_14, rfl, HA, HJ14, HO_5, BK230, HB⟩ := hcut
                          cases kq with
                          | zero => exact absurd HA.out (by simp [arraslaw21_PlaceJustifies.j3])
                          | succ kj14 =>
                            have H := HA.out
                            clear HA
                            simp only [arraslaw21_PlaceJustifies.j3] at H
                            replace H := Option.bind_eq_some_iff.mp H
                            obtain ⟨⟨t234, t235⟩, A180, H⟩ := H
                            replace H : ((arrasref19_MayJustify.f kj14 ((rd_T27 l0 x3_1).f0) ((rd_T27 l0 x3_1).f1) ((rd_T27 l0 x3_1).f2) x7_14).bind fun t238 => (if t238 = true then ((arrasref19_Justify.f kj14 ((rd_T27 l0 x3_1).f0) ((rd_T27 l0 x3_1).f1) ((rd_T27 l0 x3_1).f2) x7_14).bind fun t239 => (arraslaw21_PlaceJustifies.j4 kj14 l0 x3_1 t231 x6_3 t234 t235 0 t239 ((rd_T27 l0 x3_1).f0) ((rd_T27 l0 x3_1).f1) ((rd_T27 l0 x3_1).f2) ((rd_T27 l0 x3_1).f3))) else (arraslaw21_PlaceJustifies.j4 kj14 l0 x3_1 t231 x6_3 t234 t235 1 ([] : List Int) ((rd_T27 l0 x3_1).f0) ((rd_T27 l0 x3_1).f1) ((rd_T27 l0 x3_1).f2) ((rd_T27 l0 x3_1).f3)))) = some r := H
                            have A18 := Aside0.mk A180
                            clear A180
                            replace H := Option.bind_eq_some_iff.mp H
                            obtain ⟨t238, A190, H⟩ := H
                            replace H : (if t238 = true then ((arrasref19_Justify.f kj14 ((rd_T27 l0 x3_1).f0) ((rd_T27 l0 x3_1).f1) ((rd_T27 l0 x3_1).f2) x7_14).bind fun t239 => (arraslaw21_PlaceJustifies.j4 kj14 l0 x3_1 t231 x6_3 t234 t235 0 t239 ((rd_T27 l0 x3_1).f0) ((rd_T27 l0 x3_1).f1) ((rd_T27 l0 x3_1).f2) ((rd_T27 l0 x3_1).f3))) else (arraslaw21_PlaceJustifies.j4 kj14 l0 x3_1 t231 x6_3 t234 t235 1 ([] : List Int) ((rd_T27 l0 x3_1).f0) ((rd_T27 l0 x3_1).f1) ((rd_T27 l0 x3_1).f2) ((rd_T27 l0 x3_1).f3))) = some r := H
                            have A19 := Aside0.mk A190
                            clear A190
                            have HC20 := Aside0.mk H
                            clear H
                            have hcz21_0 : wc.cell? ⟨gb230, 0, none⟩ = some (.slice A229_0 ((rd_T27 l0 x3_1).f0).length c229_0) := (blk_cell BK230.out 0).trans rfl
                            have hcz21_1 : wc.cell? ⟨gb230, 1, none⟩ = some (.int .i64 ((rd_T27 l0 x3_1).f1)) := (blk_cell BK230.out 1).trans rfl
                            have hcz21_2 : wc.cell? ⟨gb230, 2, none⟩ = some (.int .i64 ((rd_T27 l0 x3_1).f2)) := (blk_cell BK230.out 2).trans rfl
                            have hcz21_3 : wc.cell? ⟨gb230, 3, none⟩ = some (.int .i64 ((rd_T27 l0 x3_1).f3)) := (blk_cell BK230.out 3).trans rfl
                            have hfz21_0 := blk_frozen BK230.out 0
                            have hfz21_1 := blk_frozen BK230.out 1
                            have hfz21_2 := blk_frozen BK230.out 2
                            have hfz21_3 := blk_frozen BK230.out 3
                            obtain ⟨Ao22, co22, eo22⟩ := Kd.R_slice HO_5.out
                            subst eo22
                            go_upto_if 63 with (first | ((with_reducible refine gate_callee (f := 17) rfl ?_); refine goesL_ (some 53) rfl rfl Try.func17 (by kernel_rfl) rfl #[.slice Ao22 t231.length co22, .int .i64 ((rd_T27 l0 x3_1).f1), .int .i64 ((rd_T27 l0 x3_1).f2), .int .i64 x7_14] rfl (by (try simp only [List.map_toArray, List.map_cons, List.map_nil]); first | done | rfl | (simp only [List.length_drop, List.length_take]; rfl)) ?_; (with_reducible refine (place_Justify.calls kj14 _ _ t231 ((rd_T27 l0 x3_1).f1) ((rd_T27 l0 x3_1).f2) x7_14 t234 t235 _ ?side1 ?side2 A18.out).mono ?_); (case side1 => repeat (first | exact (Kd.R_reads' HO_5.out).2.2 | (with_reducible refine Kd.C_alloc ?_ _) | (with_reducible refine Kd.C_drewN ?_ _) | (with_reducible refine Kd.C_drew ?_))); (case side2 => exact (Kd.R_reads' HO_5.out).2.1); rintro e w23 ⟨v236, rfl, ho0, hb⟩; refine ⟨_, rfl, ?_⟩; have n0_ := Aside0.mk (Kd.R_elder' (by (with_reducible repeat (first | apply Kd.R_alloc | apply Kd.R_drewN | apply Kd.R_drew)); exact HO_5.out) (Kd.R_base ho0) hb); have n1_ := Aside0.mk (Kd.R_lower (Kd.R_new' ho0 (Kd.R_lt (by (with_reducible repeat (first | apply Kd.R_alloc | apply Kd.R_drewN | apply Kd.R_drew)); exact HO_5.out))) (below_size (by repeat (first | (with_reducible first | exact HB.out | apply below_alloc | apply pw_below_drewN | apply below_drew1 | refine below_set ?_ GE230.out) | exact HB.out)))); have n2_ := Aside0.mk (blk_below (g := gb230) (o := .cells #[.slice A229_0 ((rd_T27 l0 x3_1).f0).length c229_0, .int .i64 ((rd_T27 l0 x3_1).f1), .int .i64 ((rd_T27 l0 x3_1).f2), .int .i64 ((rd_T27 l0 x3_1).f3)] 27 (0, 0)) (by (with_reducible repeat (first | refine blk_drewN ?_ _ | refine blk_drew ?_ | refine blk_alloc ?_ _)); exact BK230.out) hb); have n3_ := Aside0.mk (below_step (by repeat (first | (with_reducible first | exact HB.out | apply below_alloc | apply pw_below_drewN | apply below_drew1 | refine below_set ?_ GE230.out) | exact HB.out)) hb); clear HO_5; clear BK230; clear HB; have HO_5 := n0_; have HO237 := n1_; have BK230 := n2_; have HB := n3_; clear n0_ n1_ n2_ n3_; (try clear hb); (try clear hb2); (try clear hk); (try clear hi); (try clear ho0); have hcz24_0 : w23.cell? ⟨gb230, 0, none⟩ = some (.slice A229_0 ((rd_T27 l0 x3_1).f0).length c229_0) := (blk_cell BK230.out 0).trans rfl; have hcz24_1 : w23.cell? ⟨gb230, 1, none⟩ = some (.int .i64 ((rd_T27 l0 x3_1).f1)) := (blk_cell BK230.out 1).trans rfl; have hcz24_2 : w23.cell? ⟨gb230, 2, none⟩ = some (.int .i64 ((rd_T27 l0 x3_1).f2)) := (blk_cell BK230.out 2).trans rfl; have hcz24_3 : w23.cell? ⟨gb230, 3, none⟩ = some (.int .i64 ((rd_T27 l0 x3_1).f3)) := (blk_cell BK230.out 3).trans rfl; have hfz24_0 := blk_frozen BK230.out 0; have hfz24_1 := blk_frozen BK230.out 1; have hfz24_2 := blk_frozen BK230.out 2; have hfz24_3 := blk_frozen BK230.out 3) | ((with_reducible refine gate_callee (f := 18) rfl ?_); refine goesL_ (some 63) rfl rfl Try.func18 (by kernel_rfl) rfl #[.slice A229_0 ((rd_T27 l0 x3_1).f0).length c229_0, .int .i64 ((rd_T27 l0 x3_1).f1), .int .i64 ((rd_T27 l0 x3_1).f2), .int .i64 x7_14] rfl (by (try simp only [List.map_toArray, List.map_cons, List.map_nil]); first | done | rfl | (simp only [List.length_drop, List.length_take]; rfl)) ?_; (with_reducible refine (arrasref19_MayJustify.calls kj14 _ _ ((rd_T27 l0 x3_1).f0) ((rd_T27 l0 x3_1).f1) ((rd_T27 l0 x3_1).f2) x7_14 t238 _ ?side1 ?side2 A19.out).mono ?_); (case side1 => repeat (first | exact (Kd.C_below HR229_0.out HB.out) | (with_reducible refine Kd.C_alloc ?_ _) | (with_reducible refine Kd.C_drewN ?_ _) | (with_reducible refine Kd.C_drew ?_))); (case side2 => exact HC229_0.out); rintro e w' ⟨rfl, ⟨nd, rfl⟩⟩; refine ⟨_, rfl, ?_⟩))
                            (try simp only [Act.put, List.setIfInBounds_toArray, List.set_cons_zero, List.set_cons_succ])
                            go_cut [10, 11] (fun v10 v11 wc => ∃ (kq : Nat) (x10_19 : Int) (x11_19 : List Int), v10 = .int .i64 x10_19 ∧ Aside0 (arraslaw21_PlaceJustifies.j4 kq l0 x3_1 t231 x6_3 t234 t235 x10_19 x11_19 ((rd_T27 l0 x3_1).f0) ((rd_T27 l0 x3_1).f1) ((rd_T27 l0 x3_1).f2) ((rd_T27 l0 x3_1).f3) = some r) ∧ Aside0 (kq ≤ kj14) ∧ Aside0 (Kd.R (Kd.int .i64) 3 wc w.heap.size (fun k_ => some k_ ≠ (v236 : Value).ownBlock ∧ some k_ ≠ (v11 : Value).ownBlock) (.slice Ao22 t231.length co22) t231) ∧ Aside0 (Kd.R (Kd.int .i64) 3 wc w.heap.size (fun k_ => some k_ ≠ ((.slice Ao22 t231.length co22) : Value).ownBlock ∧ some k_ ≠ (v11 : Value).ownBlock) v236 t234) ∧ Aside0 (Kd.R (Kd.int .i64) 3 wc w.heap.size (fun k_ => some k_ ≠ ((.slice Ao22 t231.length co22) : Value).ownBlock ∧ some k_ ≠ (v236 : Value).ownBlock) v11 x11_19) ∧ Aside0 (wc.heap[gb230]? = some (.cells #[(.slice A229_0 ((rd_T27 l0 x3_1).f0).length c229_0), .int .i64 ((rd_T27 l0 x3_1).f1), .int .i64 ((rd_T27 l0 x3_1).f2), .int .i64 ((rd_T27 l0 x3_1).f3)] 27 (0, 0))) ∧ Aside0 (Below w.heap.size w wc))
                            case first =>
                              have H := HC20.out
                              clear HC20
                              by_cases c25 : t238 = true
                              · subst c25
                                have H1 : ((arrasref19_Justify.f kj14 ((rd_T27 l0 x3_1).f0) ((rd_T27 l0 x3_1).f1) ((rd_T27 l0 x3_1).f2) x7_14).bind fun t239 => (arraslaw21_PlaceJustifies.j4 kj14 l0 x3_1 t231 x6_3 t234 t235 0 t239 ((rd_T27 l0 x3_1).f0) ((rd_T27 l0 x3_1).f1) ((rd_T27 l0 x3_1).f2) ((rd_T27 l0 x3_1).f3))) = some r := by rw [if_pos rfl] at H; exact H
                                clear H
                                have H := H1
                                clear H1
                                replace H := Option.bind_eq_some_iff.mp H
                                obtain ⟨t239, A260, H⟩ := H
                                replace H : (arraslaw21_PlaceJustifies.j4 kj14 l0 x3_1 t231 x6_3 t234 t235 0 t239 ((rd_T27 l0 x3_1).f0) ((rd_T27 l0 x3_1).f1) ((rd_T27 l0 x3_1).f2) ((rd_T27 l0 x3_1).f3)) = some r := H
                                have A26 := Aside0.mk A260
                                clear A260
                                have H' := Aside0.mk H
                                clear H
                                have hcz27_0 : w23.cell? ⟨gb230, 0, none⟩ = some (.slice A229_0 ((rd_T27 l0 x3_1).f0).length c229_0) := (blk_cell BK230.out 0).trans rfl
                                have hcz27_1 : w23.cell? ⟨gb230, 1, none⟩ = some (.int .i64 ((rd_T27 l0 x3_1).f1)) := (blk_cell BK230.out 1).trans rfl
                                have hcz27_2 : w23.cell? ⟨gb230, 2, none⟩ = some (.int .i64 ((rd_T27 l0 x3_1).f2)) := (blk_cell BK230.out 2).trans rfl
                                have hcz27_3 : w23.cell? ⟨gb230, 3, none⟩ = some (.int .i64 ((rd_T27 l0 x3_1).f3)) := (blk_cell BK230.out 3).trans rfl
                                have hfz27_0 := blk_frozen BK230.out 0
                                have hfz27_1 := blk_frozen BK230.out 1
                                have hfz27_2 := blk_frozen BK230.out 2
                                have hfz27_3 := blk_frozen BK230.out 3
                                go_wp2_with (first | ((with_reducible refine gate_callee (f := 19) rfl ?_); refine goesL_ (some 71) rfl rfl Try.func19 (by kernel_rfl) rfl #[.slice A229_0 ((rd_T27 l0 x3_1).f0).length c229_0, .int .i64 ((rd_T27 l0 x3_1).f1), .int .i64 ((rd_T27 l0 x3_1).f2), .int .i64 x7_14] rfl (by (try simp only [List.map_toArray, List.map_cons, List.map_nil]); first | done | rfl | (simp only [List.length_drop, List.length_take]; rfl)) ?_; (with_reducible refine (arrasref19_Justify.calls kj14 _ _ ((rd_T27 l0 x3_1).f0) ((rd_T27 l0 x3_1).f1) ((rd_T27 l0 x3_1).f2) x7_14 t239 _ ?side1 ?side2 A26.out).mono ?_); (case side1 => repeat (first | exact (Kd.C_below HR229_0.out HB.out) | (with_reducible refine Kd.C_alloc ?_ _) | (with_reducible refine Kd.C_drewN ?_ _) | (with_reducible refine Kd.C_drew ?_))); (case side2 => exact HC229_0.out); rintro e w28 ⟨v240, rfl, ho0, hb⟩; refine ⟨_, rfl, ?_⟩; have n0_ := Aside0.mk (Kd.R_elder' (by (with_reducible repeat (first | apply Kd.R_alloc | apply Kd.R_drewN | apply Kd.R_drew)); exact HO_5.out) (Kd.R_base ho0) hb); have n1_ := Aside0.mk (Kd.R_elder' (by (with_reducible repeat (first | apply Kd.R_alloc | apply Kd.R_drewN | apply Kd.R_drew)); exact HO237.out) (Kd.R_base ho0) hb); have n2_ := Aside0.mk (Kd.R_lower (Kd.R_new' (Kd.R_new' ho0 (Kd.R_lt (by (with_reducible repeat (first | apply Kd.R_alloc | apply Kd.R_drewN | apply Kd.R_drew)); exact HO_5.out))) (Kd.R_lt (by (with_reducible repeat (first | apply Kd.R_alloc | apply Kd.R_drewN | apply Kd.R_drew)); exact HO237.out))) (below_size (by repeat (first | (with_reducible first | exact HB.out | apply below_alloc | apply pw_below_drewN | apply below_drew1 | refine below_set ?_ GE230.out) | exact HB.out)))); have n3_ := Aside0.mk (blk_below (g := gb230) (o := .cells #[.slice A229_0 ((rd_T27 l0 x3_1).f0).length c229_0, .int .i64 ((rd_T27 l0 x3_1).f1), .int .i64 ((rd_T27 l0 x3_1).f2), .int .i64 ((rd_T27 l0 x3_1).f3)] 27 (0, 0)) (by (with_reducible repeat (first | refine blk_drewN ?_ _ | refine blk_drew ?_ | refine blk_alloc ?_ _)); exact BK230.out) hb); have n4_ := Aside0.mk (below_step (by repeat (first | (with_reducible first | exact HB.out | apply below_alloc | apply pw_below_drewN | apply below_drew1 | refine below_set ?_ GE230.out) | exact HB.out)) hb); clear HO_5; clear HO237; clear BK230; clear HB; have HO_5 := n0_; have HO237 := n1_; have HO241 := n2_; have BK230 := n3_; have HB := n4_; clear n0_ n1_ n2_ n3_ n4_; (try clear hb); (try clear hb2); (try clear hk); (try clear hi); (try clear ho0)))
                                go_meet
                                case rel => exact ⟨_, (0), (t239), (by first | rfl | (simp; done) | (simp [*]; done)), H', ⟨by have := HK1.out; have := HJ1.out; have := HK3.out; have := HJ14.out; first | omega | exact Nat.le_refl _⟩, ⟨by (with_reducible repeat (first | apply Kd.R_alloc | apply Kd.R_drewN | apply Kd.R_drew)); exact Kd.R_mono HO_5.out (fun _ hk => ⟨hk.1.2, hk.2⟩)⟩, ⟨by (with_reducible repeat (first | apply Kd.R_alloc | apply Kd.R_drewN | apply Kd.R_drew)); exact Kd.R_mono HO237.out (fun _ hk => ⟨hk.1.2, hk.2⟩)⟩, ⟨by (with_reducible repeat (first | apply Kd.R_alloc | apply Kd.R_drewN | apply Kd.R_drew)); exact Kd.R_mono HO241.out (fun _ hk => ⟨hk.1.2, hk.2⟩)⟩, ⟨by (with_reducible repeat (first | refine blk_drewN ?_ _ | refine blk_drew ?_ | refine blk_alloc ?_ _)); exact BK230.out⟩, ⟨by repeat (first | (with_reducible first | exact HB.out | apply below_alloc | apply pw_below_drewN | apply below_drew1 | refine below_set ?_ GE230.out) | exact HB.out)⟩⟩
                              · replace c25 := Bool.eq_false_iff.mpr c25
                                subst c25
                                have H1 : (arraslaw21_PlaceJustifies.j4 kj14 l0 x3_1 t231 x6_3 t234 t235 1 ([] : List Int) ((rd_T27 l0 x3_1).f0) ((rd_T27 l0 x3_1).f1) ((rd_T27 l0 x3_1).f2) ((rd_T27 l0 x3_1).f3)) = some r := by rw [if_neg (show ¬ (false = true) by decide)] at H; exact H
                                clear H
                                have H := H1
                                clear H1
                                have H' := Aside0.mk H
                                clear H
                                go_wp2
                                go_meet
                                case rel => exact ⟨_, (1), (([] : List Int)), (by first | rfl | (simp; done) | (simp [*]; done)), H', ⟨by have := HK1.out; have := HJ1.out; have := HK3.out; have := HJ14.out; first | omega | exact Nat.le_refl _⟩, ⟨by (with_reducible repeat (first | apply Kd.R_alloc | apply Kd.R_drewN | apply Kd.R_drew)); exact Kd.R_mono HO_5.out (fun _ hk => ⟨hk.2, (by simp [Value.ownBlock])⟩)⟩, ⟨by (with_reducible repeat (first | apply Kd.R_alloc | apply Kd.R_drewN | apply Kd.R_drew)); exact Kd.R_mono HO237.out (fun _ hk => ⟨hk.2, (by simp [Value.ownBlock])⟩)⟩, ⟨by first | exact Kd.R_nil _ _ _ _ _ | exact Kd.N_nil _ _ _ _ _ | exact Kd.V_nil _ _ _ _ _ | exact Kd.Q_nil _ _ _ _ _ | exact Kd.S_nil _ _ _ _ _⟩, ⟨by (with_reducible repeat (first | refine blk_drewN ?_ _ | refine blk_drew ?_ | refine blk_alloc ?_ _)); exact BK230.out⟩, ⟨by repeat (first | (with_reducible first | exact HB.out | apply below_alloc | apply pw_below_drewN | apply below_drew1 | refine below_set ?_ GE230.out) | exact HB.out)⟩⟩
                            case rest =>
                              clear HC20
                              try clear c1
                              try clear c2
                              try clear p2
                              try clear q2
                              try clear hx2
                              try clear c3
                              try clear c3b0
                              try clear c4
                              try clear c5
                              try clear c5b0
                              try clear c6
                              try clear c6b0
                              try clear c7
                              try clear c7b0
                              try clear c7b1
                              try clear c8
                              try clear c14
                              try clear c14b0
                              try clear c16
                              try clear c16b0
                              try clear c16b1
                              try clear c17
                              try clear c18
                              try clear c19
                              try clear c22
                              try clear p22
                              try clear q22
                              try clear hx22
                              try clear c25
                              try clear hcz12_0
                              try clear hcz12_1
                              try clear hcz12_2
                              try clear hcz12_3
                              try clear hcz17_0
                              try clear hcz17_1
                              try clear hcz17_2
                              try clear hcz17_3
                              try clear hcz21_0
                              try clear hcz21_1
                              try clear hcz21_2
                              try clear hcz21_3
                              try clear hcz24_0
                              try clear hcz24_1
                              try clear hcz24_2
                              try clear hcz24_3
                              try clear hcz27_0
                              try clear hcz27_1
                              try clear hcz27_2
                              try clear hcz27_3
                              try clear hcz9_0
                              try clear hcz9_1
                              try clear hcz9_2
                              try clear hcz9_3
                              try clear hfz12_0
                              try clear hfz12_1
                              try clear hfz12_2
                              try clear hfz12_3
                              try clear hfz17_0
                              try clear hfz17_1
                              try clear hfz17_2
                              try clear hfz17_3
                              try clear hfz21_0
                              try clear hfz21_1
                              try clear hfz21_2
                              try clear hfz21_3
                              try clear hfz24_0
                              try clear hfz24_1
                              try clear hfz24_2
                              try clear hfz24_3
                              try clear hfz27_0
                              try clear hfz27_1
                              try clear hfz27_2
                              try clear hfz27_3
                              try clear hfz9_0
                              try clear hfz9_1
                              try clear hfz9_2
                              try clear hfz9_3
                              try clear hx229_0
                              try clear hx229_1
                              try clear hx229_2
                              try clear hx229_3
                              try clear p2
                              try clear p229
                              try clear q2
                              try clear q229
                              obtain ⟨kq, x10_19, x11_19, rfl, HA, HJ19, HO_5, HO_8, HO_11, BK230, HB⟩ := hcut
                              cases kq with
                              | zero => exact absurd HA.out (by simp [arraslaw21_PlaceJustifies.j4])
                              | succ kj19 =>
                                have H := HA.out
                                clear HA
                                simp only [arraslaw21_PlaceJustifies.j4] at H
                                replace H := Option.bind_eq_some_iff.mp H
                                obtain ⟨t242, A290, H⟩ := H
                                replace H : (if t242 = x10_19 then ((arrasref0_EqNumbers.f kj19 t234 x11_19).bind fun t243 => (if t243 = true then ((arraslaw0_Numbers.f kj19 t234).bind fun _ => (arraslaw21_PlaceJustifies.l1 kj19 l0 x3_1 t231 (wrap64 (x6_3 + 1)) ((rd_T27 l0 x3_1).f0) ((rd_T27 l0 x3_1).f1) ((rd_T27 l0 x3_1).f2) ((rd_T27 l0 x3_1).f3))) else (some false))) else (some false)) = some r := H
                                have A29 := Aside0.mk A290
                                clear A290
                                by_cases c30 : t242 = x10_19
                                · rw [if_pos c30] at H
                                  have c30b0 : (t242 == x10_19) = true := beq_iff_eq.mpr c30
                                  have c30b1 : (t242 != x10_19) = false := bne_eq_false_iff_eq.mpr c30
                                  clear c30
                                  replace H := Option.bind_eq_some_iff.mp H
                                  obtain ⟨t243, A310, H⟩ := H
                                  replace H : (if t243 = true then ((arraslaw0_Numbers.f kj19 t234).bind fun _ => (arraslaw21_PlaceJustifies.l1 kj19 l0 x3_1 t231 (wrap64 (x6_3 + 1)) ((rd_T27 l0 x3_1).f0) ((rd_T27 l0 x3_1).f1) ((rd_T27 l0 x3_1).f2) ((rd_T27 l0 x3_1).f3))) else (some false)) = some r := H
                                  have A31 := Aside0.mk A310
                                  clear A310
                                  by_cases c32 : t243 = true
                                  · subst c32
                                    have H1 : ((arraslaw0_Numbers.f kj19 t234).bind fun _ => (arraslaw21_PlaceJustifies.l1 kj19 l0 x3_1 t231 (wrap64 (x6_3 + 1)) ((rd_T27 l0 x3_1).f0) ((rd_T27 l0 x3_1).f1) ((rd_T27 l0 x3_1).f2) ((rd_T27 l0 x3_1).f3))) = some r := by rw [if_pos rfl] at H; exact H
                                    clear H
                                    have H := H1
                                    clear H1
                                    replace H := Option.bind_eq_some_iff.mp H
                                    obtain ⟨_, A330, H⟩ := H
                                    replace H : (arraslaw21_PlaceJustifies.l1 kj19 l0 x3_1 t231 (wrap64 (x6_3 + 1)) ((rd_T27 l0 x3_1).f0) ((rd_T27 l0 x3_1).f1) ((rd_T27 l0 x3_1).f2) ((rd_T27 l0 x3_1).f3)) = some r := H
                                    have A33 := Aside0.mk A330
                                    clear A330
                                    have H' := Aside0.mk H
                                    clear H
                                    go_wp2_with (first | ((with_reducible refine gate_callee (f := 20) rfl ?_); refine goesL_ (some 73) rfl rfl Try.func20 (by kernel_rfl) rfl #[.int .i64 t235] rfl (by (try simp only [List.map_toArray, List.map_cons, List.map_nil]); first | done | rfl | (simp only [List.length_drop, List.length_take]; rfl)) ?_; (with_reducible refine (arraslaw21_num.calls t235 t242 _ A29.out).mono ?_); rintro e w' ⟨rfl, ⟨nd, rfl⟩⟩; refine ⟨_, rfl, ?_⟩; obtain ⟨Ao34, co34, eo34⟩ := Kd.R_slice HO_8.out; subst eo34; obtain ⟨Ao35, co35, eo35⟩ := Kd.R_slice HO_11.out; subst eo35) | (go_at_call 21; (with_reducible refine (arrasref0_EqNumbers.calls kj19 _ _ t234 _ _ x11_19 true _ ?side1 ?side2 ?side3 ?side4 A31.out).mono ?_); (case side1 => repeat (first | exact (Kd.R_reads' HO_8.out).2.2 | (with_reducible refine Kd.C_alloc ?_ _) | (with_reducible refine Kd.C_drewN ?_ _) | (with_reducible refine Kd.C_drew ?_))); (case side2 => exact (Kd.R_reads' HO_8.out).2.1); (case side3 => repeat (first | exact (Kd.R_reads' HO_11.out).2.2 | (with_reducible refine Kd.C_alloc ?_ _) | (with_reducible refine Kd.C_drewN ?_ _) | (with_reducible refine Kd.C_drew ?_))); (case side4 => exact (Kd.R_reads' HO_11.out).2.1); rintro e w' ⟨rfl, ⟨nd, rfl⟩⟩) | ((with_reducible refine gate_callee (f := 22) rfl ?_); refine goesL_ (some 83) rfl rfl Try.func22 (by kernel_rfl) rfl #[.slice Ao34 t234.length co34] rfl (by (try simp only [List.map_toArray, List.map_cons, List.map_nil]); first | done | rfl | (simp only [List.length_drop, List.length_take]; rfl)) ?_; (with_reducible refine (arraslaw0_Numbers.calls kj19 (fun k_ => some k_ = (.slice Ao34 t234.length co34 : Value).ownBlock) (.slice Ao34 t234.length co34) t234  w _ ?side1 ?side2 A33.out).mono ?_); (case side1 => repeat (first | (with_reducible first | exact HB.out | apply below_alloc | apply pw_below_drewN | apply below_drew1 | refine below_set ?_ GE230.out) | exact HB.out)); (case side2 => exact Kd.R_tight rfl HO_8.out); rintro e w36 ⟨rfl, hb, hkp⟩; refine ⟨_, rfl, ?_⟩; have n0_ := Aside0.mk (Kd.R_mono (ok' := fun k_ => some k_ ≠ (.slice Ao35 x11_19.length co35 : Value).ownBlock) (Kd.R_keptB (HO_5.out) hkp (fun k_ hk_ hs_ => (hk_.1) hs_)) (fun k_ hk_ => hk_.1.2)); have n1_ := Aside0.mk (Kd.R_mono (ok' := fun k_ => some k_ ≠ (.slice Ao22 t231.length co22 : Value).ownBlock) (Kd.R_keptB (HO_11.out) hkp (fun k_ hk_ hs_ => (hk_.2) hs_)) (fun k_ hk_ => hk_.1.1)); have n2_ := Aside0.mk (blk_kept (by (with_reducible repeat (first | refine blk_drewN ?_ _ | refine blk_drew ?_ | refine blk_alloc ?_ _)); exact BK230.out) hkp (fun hs_ => (fun e_ => (Kd.R_ne HO_8.out BK230.out (by decide)) e_) hs_)); have n3_ := Aside0.mk (hb); clear HO_5; clear HO_11; clear BK230; clear HB; clear HO_8; have HO_5 := n0_; have HO_11 := n1_; have BK230 := n2_; have HB := n3_; clear n0_ n1_ n2_ n3_; (try clear hb); (try clear hkp)))
                                    go_roundg kj19
                                    case measure => have := HK1.out; have := HJ1.out; have := HK3.out; have := HJ14.out; have := HJ19.out; omega
                                    case rel => exact ⟨(wrap64 (x6_3 + 1)), (by first | rfl | (simp; done) | (simp [*]; done)), H', ⟨by have := HK1.out; have := HJ1.out; have := HK3.out; have := HJ14.out; have := HJ19.out; omega⟩, ⟨by (with_reducible repeat (first | apply Kd.R_alloc | apply Kd.R_drewN | apply Kd.R_drew)); exact Kd.R_mono HO_5.out (fun _ hk => trivial)⟩, ⟨by (with_reducible repeat (first | refine blk_drewN ?_ _ | refine blk_drew ?_ | refine blk_alloc ?_ _)); exact BK230.out⟩, ⟨by repeat (first | (with_reducible first | exact HB.out | apply below_alloc | apply pw_below_drewN | apply below_drew1 | refine below_set ?_ GE230.out) | exact HB.out)⟩⟩
                                  · replace c32 := Bool.eq_false_iff.mpr c32
                                    subst c32
                                    have H1 : (some false) = some r := by rw [if_neg (show ¬ (false = true) by decide)] at H; exact H
                                    clear H
                                    have H := H1
                                    clear H1
                                    obtain rfl := Option.some.inj H
                                    go_wp2_with (first | ((with_reducible refine gate_callee (f := 20) rfl ?_); refine goesL_ (some 73) rfl rfl Try.func20 (by kernel_rfl) rfl #[.int .i64 t235] rfl (by (try simp only [List.map_toArray, List.map_cons, List.map_nil]); first | done | rfl | (simp only [List.length_drop, List.length_take]; rfl)) ?_; (with_reducible refine (arraslaw21_num.calls t235 t242 _ A29.out).mono ?_); rintro e w' ⟨rfl, ⟨nd, rfl⟩⟩; refine ⟨_, rfl, ?_⟩; obtain ⟨Ao37, co37, eo37⟩ := Kd.R_slice HO_8.out; subst eo37; obtain ⟨Ao38, co38, eo38⟩ := Kd.R_slice HO_11.out; subst eo38) | (go_at_call 21; (with_reducible refine (arrasref0_EqNumbers.calls kj19 _ _ t234 _ _ x11_19 false _ ?side1 ?side2 ?side3 ?side4 A31.out).mono ?_); (case side1 => repeat (first | exact (Kd.R_reads' HO_8.out).2.2 | (with_reducible refine Kd.C_alloc ?_ _) | (with_reducible refine Kd.C_drewN ?_ _) | (with_reducible refine Kd.C_drew ?_))); (case side2 => exact (Kd.R_reads' HO_8.out).2.1); (case side3 => repeat (first | exact (Kd.R_reads' HO_11.out).2.2 | (with_reducible refine Kd.C_alloc ?_ _) | (with_reducible refine Kd.C_drewN ?_ _) | (with_reducible refine Kd.C_drew ?_))); (case side4 => exact (Kd.R_reads' HO_11.out).2.1); rintro e w' ⟨rfl, ⟨nd, rfl⟩⟩))
                                    go_ret
                                    exact ⟨by first | rfl | (simp [errW_none, errW_some] <;> rfl) | (simp [*, errW_none, errW_some] <;> rfl), by repeat (first | (with_reducible first | exact HB.out | apply below_alloc | apply pw_below_drewN | apply below_drew1 | refine below_set ?_ GE230.out) | exact HB.out)⟩
                                · rw [if_neg c30] at H
                                  have c30b0 : (t242 == x10_19) = false := beq_eq_false_iff_ne.mpr c30
                                  have c30b1 : (t242 != x10_19) = true := bne_iff_ne.mpr c30
                                  obtain rfl := Option.some.inj H
                                  go_wp2_with (first | ((with_reducible refine gate_callee (f := 20) rfl ?_); refine goesL_ (some 73) rfl rfl Try.func20 (by kernel_rfl) rfl #[.int .i64 t235] rfl (by (try simp only [List.map_toArray, List.map_cons, List.map_nil]); first | done | rfl | (simp only [List.length_drop, List.length_take]; rfl)) ?_; (with_reducible refine (arraslaw21_num.calls t235 t242 _ A29.out).mono ?_); rintro e w' ⟨rfl, ⟨nd, rfl⟩⟩; refine ⟨_, rfl, ?_⟩))
                                  go_ret
                                  exact ⟨by first | rfl | (simp [errW_none, errW_some] <;> rfl) | (simp [*, errW_none, errW_some] <;> rfl), by repeat (first | (with_reducible first | exact HB.out | apply below_alloc | apply pw_below_drewN | apply below_drew1 | refine below_set ?_ GE230.out) | exact HB.out)⟩
                      · rw [if_neg c14] at H
                        have c14b0 : decide (x6_3 ≤ 5) = false := decide_eq_false c14
                        clear c14
                        replace H := Option.bind_eq_some_iff.mp H
                        obtain ⟨⟨t244, t245⟩, A390, H⟩ := H
                        replace H : ((arrasref19_Sizes.f k3 ((rd_T27 l0 x3_1).f0) ((rd_T27 l0 x3_1).f1) 1000).bind fun t248 => (if t248 = true then ((arrasref19_Stack.f k3 ((rd_T27 l0 x3_1).f0) ((rd_T27 l0 x3_1).f1)).bind fun t249 => (arraslaw21_PlaceJustifies.j5 k3 l0 x3_1 t231 t244 t245 0 t249 ((rd_T27 l0 x3_1).f0) ((rd_T27 l0 x3_1).f1) ((rd_T27 l0 x3_1).f2) ((rd_T27 l0 x3_1).f3))) else (arraslaw21_PlaceJustifies.j5 k3 l0 x3_1 t231 t244 t245 1 ([] : List Int) ((rd_T27 l0 x3_1).f0) ((rd_T27 l0 x3_1).f1) ((rd_T27 l0 x3_1).f2) ((rd_T27 l0 x3_1).f3)))) = some r := H
                        have A39 := Aside0.mk A390
                        clear A390
                        replace H := Option.bind_eq_some_iff.mp H
                        obtain ⟨t248, A400, H⟩ := H
                        replace H : (if t248 = true then ((arrasref19_Stack.f k3 ((rd_T27 l0 x3_1).f0) ((rd_T27 l0 x3_1).f1)).bind fun t249 => (arraslaw21_PlaceJustifies.j5 k3 l0 x3_1 t231 t244 t245 0 t249 ((rd_T27 l0 x3_1).f0) ((rd_T27 l0 x3_1).f1) ((rd_T27 l0 x3_1).f2) ((rd_T27 l0 x3_1).f3))) else (arraslaw21_PlaceJustifies.j5 k3 l0 x3_1 t231 t244 t245 1 ([] : List Int) ((rd_T27 l0 x3_1).f0) ((rd_T27 l0 x3_1).f1) ((rd_T27 l0 x3_1).f2) ((rd_T27 l0 x3_1).f3))) = some r := H
                        have A40 := Aside0.mk A400
                        clear A400
                        have HC41 := Aside0.mk H
                        clear H
                        have hcz42_0 : wr.cell? ⟨gb230, 0, none⟩ = some (.slice A229_0 ((rd_T27 l0 x3_1).f0).length c229_0) := (blk_cell BK230.out 0).trans rfl
                        have hcz42_1 : wr.cell? ⟨gb230, 1, none⟩ = some (.int .i64 ((rd_T27 l0 x3_1).f1)) := (blk_cell BK230.out 1).trans rfl
                        have hcz42_2 : wr.cell? ⟨gb230, 2, none⟩ = some (.int .i64 ((rd_T27 l0 x3_1).f2)) := (blk_cell BK230.out 2).trans rfl
                        have hcz42_3 : wr.cell? ⟨gb230, 3, none⟩ = some (.int .i64 ((rd_T27 l0 x3_1).f3)) := (blk_cell BK230.out 3).trans rfl
                        have hfz42_0 := blk_frozen BK230.out 0
                        have hfz42_1 := blk_frozen BK230.out 1
                        have hfz42_2 := blk_frozen BK230.out 2
                        have hfz42_3 := blk_frozen BK230.out 3
                        obtain ⟨Ao43, co43, eo43⟩ := Kd.R_slice HO_5.out
                        subst eo43
                        go_upto_if 95 with (first | ((with_reducible refine gate_callee (f := 23) rfl ?_); refine goesL_ (some 88) rfl rfl Try.func23 (by kernel_rfl) rfl #[.slice Ao43 t231.length co43, .int .i64 ((rd_T27 l0 x3_1).f1)] rfl (by (try simp only [List.map_toArray, List.map_cons, List.map_nil]); first | done | rfl | (simp only [List.length_drop, List.length_take]; rfl)) ?_; (with_reducible refine (place_Stack.calls k3 _ _ t231 ((rd_T27 l0 x3_1).f1) t244 t245 _ ?side1 ?side2 A39.out).mono ?_); (case side1 => repeat (first | exact (Kd.R_reads' HO_5.out).2.2 | (with_reducible refine Kd.C_alloc ?_ _) | (with_reducible refine Kd.C_drewN ?_ _) | (with_reducible refine Kd.C_drew ?_))); (case side2 => exact (Kd.R_reads' HO_5.out).2.1); rintro e w44 ⟨v246, rfl, ho0, hb⟩; refine ⟨_, rfl, ?_⟩; have n0_ := Aside0.mk (Kd.R_elder' (by (with_reducible repeat (first | apply Kd.R_alloc | apply Kd.R_drewN | apply Kd.R_drew)); exact HO_5.out) (Kd.R_base ho0) hb); have n1_ := Aside0.mk (Kd.R_lower (Kd.R_new' ho0 (Kd.R_lt (by (with_reducible repeat (first | apply Kd.R_alloc | apply Kd.R_drewN | apply Kd.R_drew)); exact HO_5.out))) (below_size (by repeat (first | (with_reducible first | exact HB.out | apply below_alloc | apply pw_below_drewN | apply below_drew1 | refine below_set ?_ GE230.out) | exact HB.out)))); have n2_ := Aside0.mk (blk_below (g := gb230) (o := .cells #[.slice A229_0 ((rd_T27 l0 x3_1).f0).length c229_0, .int .i64 ((rd_T27 l0 x3_1).f1), .int .i64 ((rd_T27 l0 x3_1).f2), .int .i64 ((rd_T27 l0 x3_1).f3)] 27 (0, 0)) (by (with_reducible repeat (first | refine blk_drewN ?_ _ | refine blk_drew ?_ | refine blk_alloc ?_ _)); exact BK230.out) hb); have n3_ := Aside0.mk (below_step (by repeat (first | (with_reducible first | exact HB.out | apply below_alloc | apply pw_below_drewN | apply below_drew1 | refine below_set ?_ GE230.out) | exact HB.out)) hb); clear HO_5; clear BK230; clear HB; have HO_5 := n0_; have HO247 := n1_; have BK230 := n2_; have HB := n3_; clear n0_ n1_ n2_ n3_; (try clear hb); (try clear hb2); (try clear hk); (try clear hi); (try clear ho0); have hcz45_0 : w44.cell? ⟨gb230, 0, none⟩ = some (.slice A229_0 ((rd_T27 l0 x3_1).f0).length c229_0) := (blk_cell BK230.out 0).trans rfl; have hcz45_1 : w44.cell? ⟨gb230, 1, none⟩ = some (.int .i64 ((rd_T27 l0 x3_1).f1)) := (blk_cell BK230.out 1).trans rfl; have hcz45_2 : w44.cell? ⟨gb230, 2, none⟩ = some (.int .i64 ((rd_T27 l0 x3_1).f2)) := (blk_cell BK230.out 2).trans rfl; have hcz45_3 : w44.cell? ⟨gb230, 3, none⟩ = some (.int .i64 ((rd_T27 l0 x3_1).f3)) := (blk_cell BK230.out 3).trans rfl; have hfz45_0 := blk_frozen BK230.out 0; have hfz45_1 := blk_frozen BK230.out 1; have hfz45_2 := blk_frozen BK230.out 2; have hfz45_3 := blk_frozen BK230.out 3) | ((with_reducible refine gate_callee (f := 24) rfl ?_); refine goesL_ (some 95) rfl rfl Try.func24 (by kernel_rfl) rfl #[.slice A229_0 ((rd_T27 l0 x3_1).f0).length c229_0, .int .i64 ((rd_T27 l0 x3_1).f1), .int .i64 1000] rfl (by (try simp only [List.map_toArray, List.map_cons, List.map_nil]); first | done | rfl | (simp only [List.length_drop, List.length_take]; rfl)) ?_; (with_reducible refine (arrasref19_Sizes.calls k3 _ _ ((rd_T27 l0 x3_1).f0) ((rd_T27 l0 x3_1).f1) 1000 t248 _ ?side1 ?side2 A40.out).mono ?_); (case side1 => repeat (first | exact (Kd.C_below HR229_0.out HB.out) | (with_reducible refine Kd.C_alloc ?_ _) | (with_reducible refine Kd.C_drewN ?_ _) | (with_reducible refine Kd.C_drew ?_))); (case side2 => exact HC229_0.out); rintro e w' ⟨rfl, ⟨nd, rfl⟩⟩; refine ⟨_, rfl, ?_⟩))
                        (try simp only [Act.put, List.setIfInBounds_toArray, List.set_cons_zero, List.set_cons_succ])
                        go_cut [14, 15] (fun v14 v15 wc => ∃ (kq : Nat) (x14_40 : Int) (x15_40 : List Int), v14 = .int .i64 x14_40 ∧ Aside0 (arraslaw21_PlaceJustifies.j5 kq l0 x3_1 t231 t244 t245 x14_40 x15_40 ((rd_T27 l0 x3_1).f0) ((rd_T27 l0 x3_1).f1) ((rd_T27 l0 x3_1).f2) ((rd_T27 l0 x3_1).f3) = some r) ∧ Aside0 (kq ≤ k3) ∧ Aside0 (Kd.R (Kd.int .i64) 3 wc w.heap.size (fun k_ => some k_ ≠ (v246 : Value).ownBlock ∧ some k_ ≠ (v15 : Value).ownBlock) (.slice Ao43 t231.length co43) t231) ∧ Aside0 (Kd.R (Kd.int .i64) 3 wc w.heap.size (fun k_ => some k_ ≠ ((.slice Ao43 t231.length co43) : Value).ownBlock ∧ some k_ ≠ (v15 : Value).ownBlock) v246 t244) ∧ Aside0 (Kd.R (Kd.int .i64) 3 wc w.heap.size (fun k_ => some k_ ≠ ((.slice Ao43 t231.length co43) : Value).ownBlock ∧ some k_ ≠ (v246 : Value).ownBlock) v15 x15_40) ∧ Aside0 (wc.heap[gb230]? = some (.cells #[(.slice A229_0 ((rd_T27 l0 x3_1).f0).length c229_0), .int .i64 ((rd_T27 l0 x3_1).f1), .int .i64 ((rd_T27 l0 x3_1).f2), .int .i64 ((rd_T27 l0 x3_1).f3)] 27 (0, 0))) ∧ Aside0 (Below w.heap.size w wc))
                        case first =>
                          have H := HC41.out
                          clear HC41
                          by_cases c46 : t248 = true
                          · subst c46
                            have H1 : ((arrasref19_Stack.f k3 ((rd_T27 l0 x3_1).f0) ((rd_T27 l0 x3_1).f1)).bind fun t249 => (arraslaw21_PlaceJustifies.j5 k3 l0 x3_1 t231 t244 t245 0 t249 ((rd_T27 l0 x3_1).f0) ((rd_T27 l0 x3_1).f1) ((rd_T27 l0 x3_1).f2) ((rd_T27 l0 x3_1).f3))) = some r := by rw [if_pos rfl] at H; exact H
                            clear H
                            have H := H1
                            clear H1
                            replace H := Option.bind_eq_some_iff.mp H
                            obtain ⟨t249, A470, H⟩ := H
                            replace H : (arraslaw21_PlaceJustifies.j5 k3 l0 x3_1 t231 t244 t245 0 t249 ((rd_T27 l0 x3_1).f0) ((rd_T27 l0 x3_1).f1) ((rd_T27 l0 x3_1).f2) ((rd_T27 l0 x3_1).f3)) = some r := H
                            have A47 := Aside0.mk A470
                            clear A470
                            have H' := Aside0.mk H
                            clear H
                            have hcz48_0 : w44.cell? ⟨gb230, 0, none⟩ = some (.slice A229_0 ((rd_T27 l0 x3_1).f0).length c229_0) := (blk_cell BK230.out 0).trans rfl
                            have hcz48_1 : w44.cell? ⟨gb230, 1, none⟩ = some (.int .i64 ((rd_T27 l0 x3_1).f1)) := (blk_cell BK230.out 1).trans rfl
                            have hcz48_2 : w44.cell? ⟨gb230, 2, none⟩ = some (.int .i64 ((rd_T27 l0 x3_1).f2)) := (blk_cell BK230.out 2).trans rfl
                            have hcz48_3 : w44.cell? ⟨gb230, 3, none⟩ = some (.int .i64 ((rd_T27 l0 x3_1).f3)) := (blk_cell BK230.out 3).trans rfl
                            have hfz48_0 := blk_frozen BK230.out 0
                            have hfz48_1 := blk_frozen BK230.out 1
                            have hfz48_2 := blk_frozen BK230.out 2
                            have hfz48_3 := blk_frozen BK230.out 3
                            go_wp2_with (first | ((with_reducible refine gate_callee (f := 25) rfl ?_); refine goesL_ (some 100) rfl rfl Try.func25 (by kernel_rfl) rfl #[.slice A229_0 ((rd_T27 l0 x3_1).f0).length c229_0, .int .i64 ((rd_T27 l0 x3_1).f1)] rfl (by (try simp only [List.map_toArray, List.map_cons, List.map_nil]); first | done | rfl | (simp only [List.length_drop, List.length_take]; rfl)) ?_; (with_reducible refine (arrasref19_Stack.calls k3 _ _ ((rd_T27 l0 x3_1).f0) ((rd_T27 l0 x3_1).f1) t249 _ ?side1 ?side2 A47.out).mono ?_); (case side1 => repeat (first | exact (Kd.C_below HR229_0.out HB.out) | (with_reducible refine Kd.C_alloc ?_ _) | (with_reducible refine Kd.C_drewN ?_ _) | (with_reducible refine Kd.C_drew ?_))); (case side2 => exact HC229_0.out); rintro e w49 ⟨v250, rfl, ho0, hb⟩; refine ⟨_, rfl, ?_⟩; have n0_ := Aside0.mk (Kd.R_elder' (by (with_reducible repeat (first | apply Kd.R_alloc | apply Kd.R_drewN | apply Kd.R_drew)); exact HO_5.out) (Kd.R_base ho0) hb); have n1_ := Aside0.mk (Kd.R_elder' (by (with_reducible repeat (first | apply Kd.R_alloc | apply Kd.R_drewN | apply Kd.R_drew)); exact HO247.out) (Kd.R_base ho0) hb); have n2_ := Aside0.mk (Kd.R_lower (Kd.R_new' (Kd.R_new' ho0 (Kd.R_lt (by (with_reducible repeat (first | apply Kd.R_alloc | apply Kd.R_drewN | apply Kd.R_drew)); exact HO_5.out))) (Kd.R_lt (by (with_reducible repeat (first | apply Kd.R_alloc | apply Kd.R_drewN | apply Kd.R_drew)); exact HO247.out))) (below_size (by repeat (first | (with_reducible first | exact HB.out | apply below_alloc | apply pw_below_drewN | apply below_drew1 | refine below_set ?_ GE230.out) | exact HB.out)))); have n3_ := Aside0.mk (blk_below (g := gb230) (o := .cells #[.slice A229_0 ((rd_T27 l0 x3_1).f0).length c229_0, .int .i64 ((rd_T27 l0 x3_1).f1), .int .i64 ((rd_T27 l0 x3_1).f2), .int .i64 ((rd_T27 l0 x3_1).f3)] 27 (0, 0)) (by (with_reducible repeat (first | refine blk_drewN ?_ _ | refine blk_drew ?_ | refine blk_alloc ?_ _)); exact BK230.out) hb); have n4_ := Aside0.mk (below_step (by repeat (first | (with_reducible first | exact HB.out | apply below_alloc | apply pw_below_drewN | apply below_drew1 | refine below_set ?_ GE230.out) | exact HB.out)) hb); clear HO_5; clear HO247; clear BK230; clear HB; have HO_5 := n0_; have HO247 := n1_; have HO251 := n2_; have BK230 := n3_; have HB := n4_; clear n0_ n1_ n2_ n3_ n4_; (try clear hb); (try clear hb2); (try clear hk); (try clear hi); (try clear ho0)))
                            go_meet
                            case rel => exact ⟨_, (0), (t249), (by first | rfl | (simp; done) | (simp [*]; done)), H', ⟨by have := HK1.out; have := HJ1.out; have := HK3.out; first | omega | exact Nat.le_refl _⟩, ⟨by (with_reducible repeat (first | apply Kd.R_alloc | apply Kd.R_drewN | apply Kd.R_drew)); exact Kd.R_mono HO_5.out (fun _ hk => ⟨hk.1.2, hk.2⟩)⟩, ⟨by (with_reducible repeat (first | apply Kd.R_alloc | apply Kd.R_drewN | apply Kd.R_drew)); exact Kd.R_mono HO247.out (fun _ hk => ⟨hk.1.2, hk.2⟩)⟩, ⟨by (with_reducible repeat (first | apply Kd.R_alloc | apply Kd.R_drewN | apply Kd.R_drew)); exact Kd.R_mono HO251.out (fun _ hk => ⟨hk.1.2, hk.2⟩)⟩, ⟨by (with_reducible repeat (first | refine blk_drewN ?_ _ | refine blk_drew ?_ | refine blk_alloc ?_ _)); exact BK230.out⟩, ⟨by repeat (first | (with_reducible first | exact HB.out | apply below_alloc | apply pw_below_drewN | apply below_drew1 | refine below_set ?_ GE230.out) | exact HB.out)⟩⟩
                          · replace c46 := Bool.eq_false_iff.mpr c46
                            subst c46
                            have H1 : (arraslaw21_PlaceJustifies.j5 k3 l0 x3_1 t231 t244 t245 1 ([] : List Int) ((rd_T27 l0 x3_1).f0) ((rd_T27 l0 x3_1).f1) ((rd_T27 l0 x3_1).f2) ((rd_T27 l0 x3_1).f3)) = some r := by rw [if_neg (show ¬ (false = true) by decide)] at H; exact H
                            clear H
                            have H := H1
                            clear H1
                            have H' := Aside0.mk H
                            clear H
                            go_wp2
                            go_meet
                            case rel => exact ⟨_, (1), (([] : List Int)), (by first | rfl | (simp; done) | (simp [*]; done)), H', ⟨by have := HK1.out; have := HJ1.out; have := HK3.out; first | omega | exact Nat.le_refl _⟩, ⟨by (with_reducible repeat (first | apply Kd.R_alloc | apply Kd.R_drewN | apply Kd.R_drew)); exact Kd.R_mono HO_5.out (fun _ hk => ⟨hk.2, (by simp [Value.ownBlock])⟩)⟩, ⟨by (with_reducible repeat (first | apply Kd.R_alloc | apply Kd.R_drewN | apply Kd.R_drew)); exact Kd.R_mono HO247.out (fun _ hk => ⟨hk.2, (by simp [Value.ownBlock])⟩)⟩, ⟨by first | exact Kd.R_nil _ _ _ _ _ | exact Kd.N_nil _ _ _ _ _ | exact Kd.V_nil _ _ _ _ _ | exact Kd.Q_nil _ _ _ _ _ | exact Kd.S_nil _ _ _ _ _⟩, ⟨by (with_reducible repeat (first | refine blk_drewN ?_ _ | refine blk_drew ?_ | refine blk_alloc ?_ _)); exact BK230.out⟩, ⟨by repeat (first | (with_reducible first | exact HB.out | apply below_alloc | apply pw_below_drewN | apply below_drew1 | refine below_set ?_ GE230.out) | exact HB.out)⟩⟩
                        case rest =>
                          clear HC41
                          try clear c1
                          try clear c2
                          try clear p2
                          try clear q2
                          try clear hx2
                          try clear c3
                          try clear c3b0
                          try clear c4
                          try clear c5
                          try clear c5b0
                          try clear c6
                          try clear c6b0
                          try clear p6
                          try clear c7
                          try clear c7b0
                          try clear c7b1
                          try clear c8
                          try clear c14
                          try clear c14b0
                          try clear c16
                          try clear c16b0
                          try clear c16b1
                          try clear c17
                          try clear c18
                          try clear c19
                          try clear c20
                          try clear c22
                          try clear p22
                          try clear q22
                          try clear hx22
                          try clear c23
                          try clear c24
                          try clear c25
                          try clear c30
                          try clear c30b0
                          try clear c30b1
                          try clear c32
                          try clear c46
                          try clear hcz12_0
                          try clear hcz12_1
                          try clear hcz12_2
                          try clear hcz12_3
                          try clear hcz17_0
                          try clear hcz17_1
                          try clear hcz17_2
                          try clear hcz17_3
                          try clear hcz21_0
                          try clear hcz21_1
                          try clear hcz21_2
                          try clear hcz21_3
                          try clear hcz24_0
                          try clear hcz24_1
                          try clear hcz24_2
                          try clear hcz24_3
                          try clear hcz27_0
                          try clear hcz27_1
                          try clear hcz27_2
                          try clear hcz27_3
                          try clear hcz42_0
                          try clear hcz42_1
                          try clear hcz42_2
                          try clear hcz42_3
                          try clear hcz45_0
                          try clear hcz45_1
                          try clear hcz45_2
                          try clear hcz45_3
                          try clear hcz48_0
                          try clear hcz48_1
                          try clear hcz48_2
                          try clear hcz48_3
                          try clear hcz9_0
                          try clear hcz9_1
                          try clear hcz9_2
                          try clear hcz9_3
                          try clear hfz12_0
                          try clear hfz12_1
                          try clear hfz12_2
                          try clear hfz12_3
                          try clear hfz17_0
                          try clear hfz17_1
                          try clear hfz17_2
                          try clear hfz17_3
                          try clear hfz21_0
                          try clear hfz21_1
                          try clear hfz21_2
                          try clear hfz21_3
                          try clear hfz24_0
                          try clear hfz24_1
                          try clear hfz24_2
                          try clear hfz24_3
                          try clear hfz27_0
                          try clear hfz27_1
                          try clear hfz27_2
                          try clear hfz27_3
                          try clear hfz42_0
                          try clear hfz42_1
                          try clear hfz42_2
                          try clear hfz42_3
                          try clear hfz45_0
                          try clear hfz45_1
                          try clear hfz45_2
                          try clear hfz45_3
                          try clear hfz48_0
                          try clear hfz48_1
                          try clear hfz48_2
                          try clear hfz48_3
                          try clear hfz9_0
                          try clear hfz9_1
                          try clear hfz9_2
                          try clear hfz9_3
                          try clear hx229_0
                          try clear hx229_1
                          try clear hx229_2
                          try clear hx229_3
                          try clear p2
                          try clear p22
                          try clear p229
                          try clear q2
                          try clear q22
                          try clear q229
                          obtain ⟨kq, x14_40, x15_40, rfl, HA, HJ40, HO_5, HO_12, HO_15, BK230, HB⟩ := hcut
                          cases kq with
                          | zero => exact absurd HA.out (by simp [arraslaw21_PlaceJustifies.j5])
                          | succ kj40 =>
                            have H := HA.out
                            clear HA
                            simp only [arraslaw21_PlaceJustifies.j5] at H
                            replace H := Option.bind_eq_some_iff.mp H
                            obtain ⟨t252, A500, H⟩ := H
                            replace H : (if t252 = x14_40 then ((arrasref0_EqNumbers.f kj40 t244 x15_40).bind fun t253 => (if t253 = true then ((arrasref0_EqNumbers.f kj40 t231 ((rd_T27 l0 x3_1).f0)).bind fun t254 => (if t254 = true then (arraslaw21_PlaceJustifies.l0 kj40 l0 (wrap64 (x3_1 + 1))) else (some false))) else (some false))) else (some false)) = some r := H
                            have A50 := Aside0.mk A500
                            clear A500
                            by_cases c51 : t252 = x14_40
                            · rw [if_pos c51] at H
                              have c51b0 : (t252 == x14_40) = true := beq_iff_eq.mpr c51
                              have c51b1 : (t252 != x14_40) = false := bne_eq_false_iff_eq.mpr c51
                              clear c51
                              replace H := Option.bind_eq_some_iff.mp H
                              obtain ⟨t253, A520, H⟩ := H
                              replace H : (if t253 = true then ((arrasref0_EqNumbers.f kj40 t231 ((rd_T27 l0 x3_1).f0)).bind fun t254 => (if t254 = true then (arraslaw21_PlaceJustifies.l0 kj40 l0 (wrap64 (x3_1 + 1))) else (some false))) else (some false)) = some r := H
                              have A52 := Aside0.mk A520
                              clear A520
                              by_cases c53 : t253 = true
                              · subst c53
                                have H1 : ((arrasref0_EqNumbers.f kj40 t231 ((rd_T27 l0 x3_1).f0)).bind fun t254 => (if t254 = true then (arraslaw21_PlaceJustifies.l0 kj40 l0 (wrap64 (x3_1 + 1))) else (some false))) = some r := by rw [if_pos rfl] at H; exact H
                                clear H
                                have H := H1
                                clear H1
                                replace H := Option.bind_eq_some_iff.mp H
                                obtain ⟨t254, A540, H⟩ := H
                                replace H : (if t254 = true then (arraslaw21_PlaceJustifies.l0 kj40 l0 (wrap64 (x3_1 + 1))) else (some false)) = some r := H
                                have A54 := Aside0.mk A540
                                clear A540
                                by_cases c55 : t254 = true
                                · subst c55
                                  have H1 : (arraslaw21_PlaceJustifies.l0 kj40 l0 (wrap64 (x3_1 + 1))) = some r := by rw [if_pos rfl] at H; exact H
                                  clear H
                                  have H := H1
                                  clear H1
                                  have H' := Aside0.mk H
                                  clear H
                                  go_wp2_with (first | ((with_reducible refine gate_callee (f := 20) rfl ?_); refine goesL_ (some 102) rfl rfl Try.func20 (by kernel_rfl) rfl #[.int .i64 t245] rfl (by (try simp only [List.map_toArray, List.map_cons, List.map_nil]); first | done | rfl | (simp only [List.length_drop, List.length_take]; rfl)) ?_; (with_reducible refine (arraslaw21_num.calls t245 t252 _ A50.out).mono ?_); rintro e w' ⟨rfl, ⟨nd, rfl⟩⟩; refine ⟨_, rfl, ?_⟩; obtain ⟨Ao56, co56, eo56⟩ := Kd.R_slice HO_12.out; subst eo56; obtain ⟨Ao57, co57, eo57⟩ := Kd.R_slice HO_15.out; subst eo57) | (go_at_call 21; (with_reducible refine (arrasref0_EqNumbers.calls kj40 _ _ t244 _ _ x15_40 true _ ?side1 ?side2 ?side3 ?side4 A52.out).mono ?_); (case side1 => repeat (first | exact (Kd.R_reads' HO_12.out).2.2 | (with_reducible refine Kd.C_alloc ?_ _) | (with_reducible refine Kd.C_drewN ?_ _) | (with_reducible refine Kd.C_drew ?_))); (case side2 => exact (Kd.R_reads' HO_12.out).2.1); (case side3 => repeat (first | exact (Kd.R_reads' HO_15.out).2.2 | (with_reducible refine Kd.C_alloc ?_ _) | (with_reducible refine Kd.C_drewN ?_ _) | (with_reducible refine Kd.C_drew ?_))); (case side4 => exact (Kd.R_reads' HO_15.out).2.1); rintro e w' ⟨rfl, ⟨nd, rfl⟩⟩; have hcz58_0 : wc.cell? ⟨gb230, 0, none⟩ = some (.slice A229_0 ((rd_T27 l0 x3_1).f0).length c229_0) := (blk_cell BK230.out 0).trans rfl; have hcz58_1 : wc.cell? ⟨gb230, 1, none⟩ = some (.int .i64 ((rd_T27 l0 x3_1).f1)) := (blk_cell BK230.out 1).trans rfl; have hcz58_2 : wc.cell? ⟨gb230, 2, none⟩ = some (.int .i64 ((rd_T27 l0 x3_1).f2)) := (blk_cell BK230.out 2).trans rfl; have hcz58_3 : wc.cell? ⟨gb230, 3, none⟩ = some (.int .i64 ((rd_T27 l0 x3_1).f3)) := (blk_cell BK230.out 3).trans rfl; have hfz58_0 := blk_frozen BK230.out 0; have hfz58_1 := blk_frozen BK230.out 1; have hfz58_2 := blk_frozen BK230.out 2; have hfz58_3 := blk_frozen BK230.out 3) | (go_at_call 21; (with_reducible refine (arrasref0_EqNumbers.calls kj40 _ _ t231 _ _ ((rd_T27 l0 x3_1).f0) true _ ?side1 ?side2 ?side3 ?side4 A54.out).mono ?_); (case side1 => repeat (first | exact (Kd.R_reads' HO_5.out).2.2 | (with_reducible refine Kd.C_alloc ?_ _) | (with_reducible refine Kd.C_drewN ?_ _) | (with_reducible refine Kd.C_drew ?_))); (case side2 => exact (Kd.R_reads' HO_5.out).2.1); (case side3 => repeat (first | exact (Kd.C_below HR229_0.out (by repeat (first | (with_reducible first | exact HB.out | apply below_alloc | apply pw_below_drewN | apply below_drew1 | refine below_set ?_ GE230.out) | exact HB.out))) | (with_reducible refine Kd.C_alloc ?_ _) | (with_reducible refine Kd.C_drewN ?_ _) | (with_reducible refine Kd.C_drew ?_))); (case side4 => exact HC229_0.out); rintro e w' ⟨rfl, ⟨nd, rfl⟩⟩))
                                  go_roundg kj40
                                  case measure => have := HK1.out; have := HJ1.out; have := HK3.out; have := HJ40.out; omega
                                  case rel => exact ⟨(wrap64 (x3_1 + 1)), (by first | rfl | (simp; done) | (simp [*]; done)), H', ⟨by have := HK1.out; have := HJ1.out; have := HK3.out; have := HJ40.out; omega⟩, ⟨by repeat (first | (with_reducible first | exact HB.out | apply below_alloc | apply pw_below_drewN | apply below_drew1 | refine below_set ?_ GE230.out) | exact HB.out)⟩⟩
                                · replace c55 := Bool.eq_false_iff.mpr c55
                                  subst c55
                                  have H1 : (some false) = some r := by rw [if_neg (show ¬ (false = true) by decide)] at H; exact H
                                  clear H
                                  have H := H1
                                  clear H1
                                  obtain rfl := Option.some.inj H
                                  go_wp2_with (first | ((with_reducible refine gate_callee (f := 20) rfl ?_); refine goesL_ (some 102) rfl rfl Try.func20 (by kernel_rfl) rfl #[.int .i64 t245] rfl (by (try simp only [List.map_toArray, List.map_cons, List.map_nil]); first | done | rfl | (simp only [List.length_drop, List.length_take]; rfl)) ?_; (with_reducible refine (arraslaw21_num.calls t245 t252 _ A50.out).mono ?_); rintro e w' ⟨rfl, ⟨nd, rfl⟩⟩; refine ⟨_, rfl, ?_⟩; obtain ⟨Ao59, co59, eo59⟩ := Kd.R_slice HO_12.out; subst eo59; obtain ⟨Ao60, co60, eo60⟩ := Kd.R_slice HO_15.out; subst eo60) | (go_at_call 21; (with_reducible refine (arrasref0_EqNumbers.calls kj40 _ _ t244 _ _ x15_40 true _ ?side1 ?side2 ?side3 ?side4 A52.out).mono ?_); (case side1 => repeat (first | exact (Kd.R_reads' HO_12.out).2.2 | (with_reducible refine Kd.C_alloc ?_ _) | (with_reducible refine Kd.C_drewN ?_ _) | (with_reducible refine Kd.C_drew ?_))); (case side2 => exact (Kd.R_reads' HO_12.out).2.1); (case side3 => repeat (first | exact (Kd.R_reads' HO_15.out).2.2 | (with_reducible refine Kd.C_alloc ?_ _) | (with_reducible refine Kd.C_drewN ?_ _) | (with_reducible refine Kd.C_drew ?_))); (case side4 => exact (Kd.R_reads' HO_15.out).2.1); rintro e w' ⟨rfl, ⟨nd, rfl⟩⟩; have hcz61_0 : wc.cell? ⟨gb230, 0, none⟩ = some (.slice A229_0 ((rd_T27 l0 x3_1).f0).length c229_0) := (blk_cell BK230.out 0).trans rfl; have hcz61_1 : wc.cell? ⟨gb230, 1, none⟩ = some (.int .i64 ((rd_T27 l0 x3_1).f1)) := (blk_cell BK230.out 1).trans rfl; have hcz61_2 : wc.cell? ⟨gb230, 2, none⟩ = some (.int .i64 ((rd_T27 l0 x3_1).f2)) := (blk_cell BK230.out 2).trans rfl; have hcz61_3 : wc.cell? ⟨gb230, 3, none⟩ = some (.int .i64 ((rd_T27 l0 x3_1).f3)) := (blk_cell BK230.out 3).trans rfl; have hfz61_0 := blk_frozen BK230.out 0; have hfz61_1 := blk_frozen BK230.out 1; have hfz61_2 := blk_frozen BK230.out 2; have hfz61_3 := blk_frozen BK230.out 3) | (go_at_call 21; (with_reducible refine (arrasref0_EqNumbers.calls kj40 _ _ t231 _ _ ((rd_T27 l0 x3_1).f0) false _ ?side1 ?side2 ?side3 ?side4 A54.out).mono ?_); (case side1 => repeat (first | exact (Kd.R_reads' HO_5.out).2.2 | (with_reducible refine Kd.C_alloc ?_ _) | (with_reducible refine Kd.C_drewN ?_ _) | (with_reducible refine Kd.C_drew ?_))); (case side2 => exact (Kd.R_reads' HO_5.out).2.1); (case side3 => repeat (first | exact (Kd.C_below HR229_0.out (by repeat (first | (with_reducible first | exact HB.out | apply below_alloc | apply pw_below_drewN | apply below_drew1 | refine below_set ?_ GE230.out) | exact HB.out))) | (with_reducible refine Kd.C_alloc ?_ _) | (with_reducible refine Kd.C_drewN ?_ _) | (with_reducible refine Kd.C_drew ?_))); (case side4 => exact HC229_0.out); rintro e w' ⟨rfl, ⟨nd, rfl⟩⟩))
                                  go_ret
                                  exact ⟨by first | rfl | (simp [errW_none, errW_some] <;> rfl) | (simp [*, errW_none, errW_some] <;> rfl), by repeat (first | (with_reducible first | exact HB.out | apply below_alloc | apply pw_below_drewN | apply below_drew1 | refine below_set ?_ GE230.out) | exact HB.out)⟩
                              · replace c53 := Bool.eq_false_iff.mpr c53
                                subst c53
                                have H1 : (some false) = some r := by rw [if_neg (show ¬ (false = true) by decide)] at H; exact H
                                clear H
                                have H := H1
                                clear H1
                                obtain rfl := Option.some.inj H
                                go_wp2_with (first | ((with_reducible refine gate_callee (f := 20) rfl ?_); refine goesL_ (some 102) rfl rfl Try.func20 (by kernel_rfl) rfl #[.int .i64 t245] rfl (by (try simp only [List.map_toArray, List.map_cons, List.map_nil]); first | done | rfl | (simp only [List.length_drop, List.length_take]; rfl)) ?_; (with_reducible refine (arraslaw21_num.calls t245 t252 _ A50.out).mono ?_); rintro e w' ⟨rfl, ⟨nd, rfl⟩⟩; refine ⟨_, rfl, ?_⟩; obtain ⟨Ao62, co62, eo62⟩ := Kd.R_slice HO_12.out; subst eo62; obtain ⟨Ao63, co63, eo63⟩ := Kd.R_slice HO_15.out; subst eo63) | (go_at_call 21; (with_reducible refine (arrasref0_EqNumbers.calls kj40 _ _ t244 _ _ x15_40 false _ ?side1 ?side2 ?side3 ?side4 A52.out).mono ?_); (case side1 => repeat (first | exact (Kd.R_reads' HO_12.out).2.2 | (with_reducible refine Kd.C_alloc ?_ _) | (with_reducible refine Kd.C_drewN ?_ _) | (with_reducible refine Kd.C_drew ?_))); (case side2 => exact (Kd.R_reads' HO_12.out).2.1); (case side3 => repeat (first | exact (Kd.R_reads' HO_15.out).2.2 | (with_reducible refine Kd.C_alloc ?_ _) | (with_reducible refine Kd.C_drewN ?_ _) | (with_reducible refine Kd.C_drew ?_))); (case side4 => exact (Kd.R_reads' HO_15.out).2.1); rintro e w' ⟨rfl, ⟨nd, rfl⟩⟩))
                                go_ret
                                exact ⟨by first | rfl | (simp [errW_none, errW_some] <;> rfl) | (simp [*, errW_none, errW_some] <;> rfl), by repeat (first | (with_reducible first | exact HB.out | apply below_alloc | apply pw_below_drewN | apply below_drew1 | refine below_set ?_ GE230.out) | exact HB.out)⟩
                            · rw [if_neg c51] at H
                              have c51b0 : (t252 == x14_40) = false := beq_eq_false_iff_ne.mpr c51
                              have c51b1 : (t252 != x14_40) = true := bne_iff_ne.mpr c51
                              obtain rfl := Option.some.inj H
                              go_wp2_with (first | ((with_reducible refine gate_callee (f := 20) rfl ?_); refine goesL_ (some 102) rfl rfl Try.func20 (by kernel_rfl) rfl #[.int .i64 t245] rfl (by (try simp only [List.map_toArray, List.map_cons, List.map_nil]); first | done | rfl | (simp only [List.length_drop, List.length_take]; rfl)) ?_; (with_reducible refine (arraslaw21_num.calls t245 t252 _ A50.out).mono ?_); rintro e w' ⟨rfl, ⟨nd, rfl⟩⟩; refine ⟨_, rfl, ?_⟩))
                              go_ret
                              exact ⟨by first | rfl | (simp [errW_none, errW_some] <;> rfl) | (simp [*, errW_none, errW_some] <;> rfl), by repeat (first | (with_reducible first | exact HB.out | apply below_alloc | apply pw_below_drewN | apply below_drew1 | refine below_set ?_ GE230.out) | exact HB.out)⟩
              · rw [if_neg c6] at H
                exact absurd H (by simp)
            · rw [if_neg c5] at H
              exact absurd H (by simp)
          · replace c4 := Bool.eq_false_iff.mpr c4
            subst c4
            have H1 : ((arraslaw21_wakes.f kj1).bind fun t228 => (some t228)) = some r := by rw [if_neg (show ¬ (false = true) by decide)] at H; exact H
            clear H
            have H := H1
            clear H1
            replace H := Option.bind_eq_some_iff.mp H
            obtain ⟨t228, A640, H⟩ := H
            replace H : (some t228) = some r := H
            have A64 := Aside0.mk A640
            clear A640
            obtain rfl := Option.some.inj H
            go_wp2_with (first | ((with_reducible refine gate_callee (f := 26) rfl ?_); refine goesL_ (some 118) rfl rfl Try.func26 (by kernel_rfl) rfl #[] rfl (by (try simp only [List.map_toArray, List.map_cons, List.map_nil]); first | done | rfl | (simp only [List.length_drop, List.length_take]; rfl)) ?_; (with_reducible refine (arraslaw21_wakes.calls kj1  t228 _ A64.out).mono ?_); rintro e w65 ⟨rfl, hb⟩; refine ⟨_, rfl, ?_⟩; have n0_ := Aside0.mk (below_step (by repeat (first | (with_reducible first | exact HB.out | apply below_alloc | apply pw_below_drewN | apply below_drew1) | exact HB.out)) hb); clear HB; have HB := n0_; clear n0_; (try clear hb); (try clear hb2); (try clear hk); (try clear hi)))
            go_ret
            exact ⟨by first | rfl | (simp [errW_none, errW_some] <;> rfl) | (simp [*, errW_none, errW_some] <;> rfl), by repeat (first | (with_reducible first | exact HB.out | apply below_alloc | apply pw_below_drewN | apply below_drew1) | exact HB.out)⟩

end Go.Proofs.Yteecoblmjjmbhaa.PA
