-- Written by wprint.py, a program of this session's, over the kit's print.
import Derived.Test.YtdpeeinmckohgaaPCx0
import Derived.Test.YtdpeeinmckohgaaPCx1
import Derived.Test.YtdpeeinmckohgaaPCx4
import Derived.Test.YtdpeeinmckohgaaPCx5
import Derived.Test.YtdpeeinmckohgaaPCx8
import Derived.Test.YtdpeeinmckohgaaPCx9
import Derived.Test.YtdpeeinmckohgaaPCx10
namespace Go.Proofs.Ytdpeeinmckohgaa.PC
open Go.RowKit Go.Proofs.YtdpeeinmckohgaaW.PrintWords Go.Proofs.YtdpeeinmckohgaaW.PrintLast Go.Proofs.YtdpeeinmckohgaaW.PrintMore
attribute [local go_sem] max2_int min2_int max_two min_two max_three min_three max_four min_four fl_eql fl_neq fl_lss fl_leq fl_gtr fl_geq fl_add fl_of fl_int cx_mk cx_real cx_imag cx_eql cx_neq cx_add st_f64 st_c128   -- for this text's walks alone
set_option linter.unusedVariables false
set_option linter.unusedSimpArgs false

/-! ### arraslaw3_PointTurns: function 4 -/
mutual
def arraslaw3_PointTurns.l0 : Nat → List (S26) → Int → Option (Bool)
  | 0, _, _ => none
  | k + 1, x0, x3 => if x3 < (x0.length : Int) then (arraslaw3_PointTurns.j1 k x0 x3 (decide (x3 < 12))) else (arraslaw3_PointTurns.j1 k x0 x3 false)
def arraslaw3_PointTurns.j1 : Nat → List (S26) → Int → Bool → Option (Bool)
  | 0, _, _, _ => none
  | k + 1, x0, x3, x28 => if x28 = true then (arraslaw3_PointTurns.l1 k x0 x3 0) else ((arraslaw3_wakes.f k).bind fun t227 => (some t227))
def arraslaw3_PointTurns.l1 : Nat → List (S26) → Int → Int → Option (Bool)
  | 0, _, _, _ => none
  | k + 1, x0, x3, x4 => if x4 < 4 then (if 0 ≤ x3 then (if x3 < (x0.length : Int) then ((arraslaw3_Ask_c.f ((rd_T26 x0 x3).f0) ((rd_T26 x0 x3).f1) ((rd_T26 x0 x3).f2.f0) ((rd_T26 x0 x3).f2.f1) ((rd_T26 x0 x3).f2.f2) ((rd_T26 x0 x3).f2.f3) ((rd_T26 x0 x3).f2.f4) ((rd_T26 x0 x3).f2.f5) ((rd_T26 x0 x3).f2.f6) ((rd_T26 x0 x3).f2.f7) x4).bind fun t229 => ((arraslaw3_Ask_c.f ((rd_T26 x0 x3).f0) ((rd_T26 x0 x3).f1) ((rd_T26 x0 x3).f2.f0) ((rd_T26 x0 x3).f2.f1) ((rd_T26 x0 x3).f2.f2) ((rd_T26 x0 x3).f2.f3) ((rd_T26 x0 x3).f2.f4) ((rd_T26 x0 x3).f2.f5) ((rd_T26 x0 x3).f2.f6) ((rd_T26 x0 x3).f2.f7) (Int.tmod (wrap64 (x4 + 1)) 4)).bind fun t231 => ((point_Turn.f k t229).bind fun bt232 => ((arraslaw3_num.f bt232.2).bind fun t234 => (if t234 = 0 then ((point_Turn.f k bt232.1).bind fun bt235 => ((arraslaw3_num.f bt235.2).bind fun t237 => (if t237 = 0 then (if ((feq bt235.1.1 t229.1 && feq bt235.1.2 t229.2) = true) then (if ((feq bt232.1.1 t229.2) = true) then (arraslaw3_PointTurns.j3 k x0 x3 x4 t229 t231 (!feq bt232.1.2 t229.1)) else (arraslaw3_PointTurns.j3 k x0 x3 x4 t229 t231 true)) else (arraslaw3_PointTurns.j3 k x0 x3 x4 t229 t231 true)) else (arraslaw3_PointTurns.j3 k x0 x3 x4 t229 t231 true)))) else (arraslaw3_PointTurns.l1 k x0 x3 (wrap64 (x4 + 1)))))))) else (none)) else (none)) else (if 0 ≤ x3 then (if x3 < (x0.length : Int) then ((arraslaw0_Within.f ((rd_T26 x0 x3).f0) 1073741824).bind fun t245 => ((arraslaw0_Within.f ((rd_T26 x0 x3).f1) 1073741824).bind fun t247 => ((point_Of.f t245 t247).bind fun bt248 => ((arraslaw0_Within.f ((rd_T26 x0 x3).f1) 1073741824).bind fun t251 => ((arraslaw0_Within.f ((rd_T26 x0 x3).f0) 1073741824).bind fun t253 => ((point_Of.f (wrap64 (-t251)) t253).bind fun bt254 => ((point_Add.f k bt248.1 bt254.1).bind fun bt256 => ((point_Sub.f k bt256.1 bt254.1).bind fun bt258 => ((arraslaw3_num.f bt248.2).bind fun t260 => (if t260 = 0 then ((arraslaw3_num.f bt254.2).bind fun t261 => (if t261 = 0 then ((arraslaw3_num.f bt256.2).bind fun t262 => (if t262 = 0 then ((arraslaw3_num.f bt258.2).bind fun t263 => (if t263 = 0 then (if ((feq bt258.1.1 bt248.1.1 && feq bt258.1.2 bt248.1.2) = true) then (if fAddIs bt248.1.1 bt254.1.1 = true then (if fAddIs bt248.1.2 bt254.1.2 = true then (if ((feq bt256.1.1 (fAdd bt248.1.1 bt254.1.1) && feq bt256.1.2 (fAdd bt248.1.2 bt254.1.2)) = true) then ((arrasref3_Point.f bt256.1).bind fun t264 => (arraslaw3_PointTurns.j5 k x0 x3 (!t264))) else (arraslaw3_PointTurns.j5 k x0 x3 true)) else (none)) else (none)) else (arraslaw3_PointTurns.j5 k x0 x3 true)) else (arraslaw3_PointTurns.j5 k x0 x3 true))) else (arraslaw3_PointTurns.j5 k x0 x3 true))) else (arraslaw3_PointTurns.j5 k x0 x3 true))) else (arraslaw3_PointTurns.j5 k x0 x3 true))))))))))) else (none)) else (none))
def arraslaw3_PointTurns.j3 : Nat → List (S26) → Int → Int → C128 → C128 → Bool → Option (Bool)
  | 0, _, _, _, _, _, _ => none
  | k + 1, x0, x3, x4, x5, x6, x83 => if x83 = true then (some false) else ((point_Add.f k x5 x6).bind fun bt238 => ((point_Add.f k x6 x5).bind fun bt240 => ((arraslaw3_num.f bt238.2).bind fun t242 => ((arraslaw3_num.f bt240.2).bind fun t243 => (if t242 = t243 then (arraslaw3_PointTurns.j4 k x0 x3 x4 (!(feq bt238.1.1 bt240.1.1 && feq bt238.1.2 bt240.1.2))) else (arraslaw3_PointTurns.j4 k x0 x3 x4 true))))))
def arraslaw3_PointTurns.j4 : Nat → List (S26) → Int → Int → Bool → Option (Bool)
  | 0, _, _, _, _ => none
  | k + 1, x0, x3, x4, x105 => if x105 = true then (some false) else (arraslaw3_PointTurns.l1 k x0 x3 (wrap64 (x4 + 1)))
def arraslaw3_PointTurns.j5 : Nat → List (S26) → Int → Bool → Option (Bool)
  | 0, _, _, _ => none
  | k + 1, x0, x3, x185 => if x185 = true then (some false) else (arraslaw3_PointTurns.l0 k x0 (wrap64 (x3 + 1)))
end
def arraslaw3_PointTurns.f (k : Nat) (l0 : List (S26)) : Option (Bool) := arraslaw3_PointTurns.l0 k l0 0
theorem arraslaw3_PointTurns.mono_l : ∀ k, (∀ y0 y1, LeO (arraslaw3_PointTurns.l0 k y0 y1) (arraslaw3_PointTurns.l0 (k + 1) y0 y1)) ∧ (∀ y0 y1 y2, LeO (arraslaw3_PointTurns.j1 k y0 y1 y2) (arraslaw3_PointTurns.j1 (k + 1) y0 y1 y2)) ∧ (∀ y0 y1 y2, LeO (arraslaw3_PointTurns.l1 k y0 y1 y2) (arraslaw3_PointTurns.l1 (k + 1) y0 y1 y2)) ∧ (∀ y0 y1 y2 y3 y4 y5, LeO (arraslaw3_PointTurns.j3 k y0 y1 y2 y3 y4 y5) (arraslaw3_PointTurns.j3 (k + 1) y0 y1 y2 y3 y4 y5)) ∧ (∀ y0 y1 y2 y3, LeO (arraslaw3_PointTurns.j4 k y0 y1 y2 y3) (arraslaw3_PointTurns.j4 (k + 1) y0 y1 y2 y3)) ∧ (∀ y0 y1 y2, LeO (arraslaw3_PointTurns.j5 k y0 y1 y2) (arraslaw3_PointTurns.j5 (k + 1) y0 y1 y2))
  | 0 => ⟨fun _ _ r h => by simp [arraslaw3_PointTurns.l0] at h, fun _ _ _ r h => by simp [arraslaw3_PointTurns.j1] at h, fun _ _ _ r h => by simp [arraslaw3_PointTurns.l1] at h, fun _ _ _ _ _ _ r h => by simp [arraslaw3_PointTurns.j3] at h, fun _ _ _ _ r h => by simp [arraslaw3_PointTurns.j4] at h, fun _ _ _ r h => by simp [arraslaw3_PointTurns.j5] at h⟩
  | k + 1 => by
    obtain ⟨ih0, ih1, ih2, ih3, ih4, ih5⟩ := arraslaw3_PointTurns.mono_l k
    refine ⟨?_, ?_, ?_, ?_, ?_, ?_⟩
    · intro y0 y1
      unfold arraslaw3_PointTurns.l0
      repeat' first
      | (with_reducible exact ih0 _ _)
      | (with_reducible exact ih1 _ _ _)
      | (with_reducible exact ih2 _ _ _)
      | (with_reducible exact ih3 _ _ _ _ _ _)
      | (with_reducible exact ih4 _ _ _ _)
      | (with_reducible exact ih5 _ _ _)
      | (with_reducible exact arraslaw3_wakes.mono _)
      | (with_reducible exact point_Add.mono _ _ _)
      | (with_reducible exact point_Sub.mono _ _ _)
      | (with_reducible exact point_Turn.mono _ _)
      | (with_reducible exact LeO.refl _)
      | (with_reducible exact LeO.none _)
      | (with_reducible refine LeO.ite ?_ ?_)
      | (with_reducible refine LeO.bind ?_ (fun _ => ?_))
      | exact ih0 _ _
      | exact ih1 _ _ _
      | exact ih2 _ _ _
      | exact ih3 _ _ _ _ _ _
      | exact ih4 _ _ _ _
      | exact ih5 _ _ _
      | exact arraslaw3_wakes.mono _
      | exact point_Add.mono _ _ _
      | exact point_Sub.mono _ _ _
      | exact point_Turn.mono _ _
      | exact LeO.none _
      | refine LeO.ite ?_ ?_
      | refine LeO.bind ?_ (fun _ => ?_)
    · intro y0 y1 y2
      unfold arraslaw3_PointTurns.j1
      repeat' first
      | (with_reducible exact ih0 _ _)
      | (with_reducible exact ih1 _ _ _)
      | (with_reducible exact ih2 _ _ _)
      | (with_reducible exact ih3 _ _ _ _ _ _)
      | (with_reducible exact ih4 _ _ _ _)
      | (with_reducible exact ih5 _ _ _)
      | (with_reducible exact arraslaw3_wakes.mono _)
      | (with_reducible exact point_Add.mono _ _ _)
      | (with_reducible exact point_Sub.mono _ _ _)
      | (with_reducible exact point_Turn.mono _ _)
      | (with_reducible exact LeO.refl _)
      | (with_reducible exact LeO.none _)
      | (with_reducible refine LeO.ite ?_ ?_)
      | (with_reducible refine LeO.bind ?_ (fun _ => ?_))
      | exact ih0 _ _
      | exact ih1 _ _ _
      | exact ih2 _ _ _
      | exact ih3 _ _ _ _ _ _
      | exact ih4 _ _ _ _
      | exact ih5 _ _ _
      | exact arraslaw3_wakes.mono _
      | exact point_Add.mono _ _ _
      | exact point_Sub.mono _ _ _
      | exact point_Turn.mono _ _
      | exact LeO.none _
      | refine LeO.ite ?_ ?_
      | refine LeO.bind ?_ (fun _ => ?_)
    · intro y0 y1 y2
      unfold arraslaw3_PointTurns.l1
      repeat' first
      | (with_reducible exact ih0 _ _)
      | (with_reducible exact ih1 _ _ _)
      | (with_reducible exact ih2 _ _ _)
      | (with_reducible exact ih3 _ _ _ _ _ _)
      | (with_reducible exact ih4 _ _ _ _)
      | (with_reducible exact ih5 _ _ _)
      | (with_reducible exact arraslaw3_wakes.mono _)
      | (with_reducible exact point_Add.mono _ _ _)
      | (with_reducible exact point_Sub.mono _ _ _)
      | (with_reducible exact point_Turn.mono _ _)
      | (with_reducible exact LeO.refl _)
      | (with_reducible exact LeO.none _)
      | (with_reducible refine LeO.ite ?_ ?_)
      | (with_reducible refine LeO.bind ?_ (fun _ => ?_))
      | exact ih0 _ _
      | exact ih1 _ _ _
      | exact ih2 _ _ _
      | exact ih3 _ _ _ _ _ _
      | exact ih4 _ _ _ _
      | exact ih5 _ _ _
      | exact arraslaw3_wakes.mono _
      | exact point_Add.mono _ _ _
      | exact point_Sub.mono _ _ _
      | exact point_Turn.mono _ _
      | exact LeO.none _
      | refine LeO.ite ?_ ?_
      | refine LeO.bind ?_ (fun _ => ?_)
    · intro y0 y1 y2 y3 y4 y5
      unfold arraslaw3_PointTurns.j3
      repeat' first
      | (with_reducible exact ih0 _ _)
      | (with_reducible exact ih1 _ _ _)
      | (with_reducible exact ih2 _ _ _)
      | (with_reducible exact ih3 _ _ _ _ _ _)
      | (with_reducible exact ih4 _ _ _ _)
      | (with_reducible exact ih5 _ _ _)
      | (with_reducible exact arraslaw3_wakes.mono _)
      | (with_reducible exact point_Add.mono _ _ _)
      | (with_reducible exact point_Sub.mono _ _ _)
      | (with_reducible exact point_Turn.mono _ _)
      | (with_reducible exact LeO.refl _)
      | (with_reducible exact LeO.none _)
      | (with_reducible refine LeO.ite ?_ ?_)
      | (with_reducible refine LeO.bind ?_ (fun _ => ?_))
      | exact ih0 _ _
      | exact ih1 _ _ _
      | exact ih2 _ _ _
      | exact ih3 _ _ _ _ _ _
      | exact ih4 _ _ _ _
      | exact ih5 _ _ _
      | exact arraslaw3_wakes.mono _
      | exact point_Add.mono _ _ _
      | exact point_Sub.mono _ _ _
      | exact point_Turn.mono _ _
      | exact LeO.none _
      | refine LeO.ite ?_ ?_
      | refine LeO.bind ?_ (fun _ => ?_)
    · intro y0 y1 y2 y3
      unfold arraslaw3_PointTurns.j4
      repeat' first
      | (with_reducible exact ih0 _ _)
      | (with_reducible exact ih1 _ _ _)
      | (with_reducible exact ih2 _ _ _)
      | (with_reducible exact ih3 _ _ _ _ _ _)
      | (with_reducible exact ih4 _ _ _ _)
      | (with_reducible exact ih5 _ _ _)
      | (with_reducible exact arraslaw3_wakes.mono _)
      | (with_reducible exact point_Add.mono _ _ _)
      | (with_reducible exact point_Sub.mono _ _ _)
      | (with_reducible exact point_Turn.mono _ _)
      | (with_reducible exact LeO.refl _)
      | (with_reducible exact LeO.none _)
      | (with_reducible refine LeO.ite ?_ ?_)
      | (with_reducible refine LeO.bind ?_ (fun _ => ?_))
      | exact ih0 _ _
      | exact ih1 _ _ _
      | exact ih2 _ _ _
      | exact ih3 _ _ _ _ _ _
      | exact ih4 _ _ _ _
      | exact ih5 _ _ _
      | exact arraslaw3_wakes.mono _
      | exact point_Add.mono _ _ _
      | exact point_Sub.mono _ _ _
      | exact point_Turn.mono _ _
      | exact LeO.none _
      | refine LeO.ite ?_ ?_
      | refine LeO.bind ?_ (fun _ => ?_)
    · intro y0 y1 y2
      unfold arraslaw3_PointTurns.j5
      repeat' first
      | (with_reducible exact ih0 _ _)
      | (with_reducible exact ih1 _ _ _)
      | (with_reducible exact ih2 _ _ _)
      | (with_reducible exact ih3 _ _ _ _ _ _)
      | (with_reducible exact ih4 _ _ _ _)
      | (with_reducible exact ih5 _ _ _)
      | (with_reducible exact arraslaw3_wakes.mono _)
      | (with_reducible exact point_Add.mono _ _ _)
      | (with_reducible exact point_Sub.mono _ _ _)
      | (with_reducible exact point_Turn.mono _ _)
      | (with_reducible exact LeO.refl _)
      | (with_reducible exact LeO.none _)
      | (with_reducible refine LeO.ite ?_ ?_)
      | (with_reducible refine LeO.bind ?_ (fun _ => ?_))
      | exact ih0 _ _
      | exact ih1 _ _ _
      | exact ih2 _ _ _
      | exact ih3 _ _ _ _ _ _
      | exact ih4 _ _ _ _
      | exact ih5 _ _ _
      | exact arraslaw3_wakes.mono _
      | exact point_Add.mono _ _ _
      | exact point_Sub.mono _ _ _
      | exact point_Turn.mono _ _
      | exact LeO.none _
      | refine LeO.ite ?_ ?_
      | refine LeO.bind ?_ (fun _ => ?_)
theorem arraslaw3_PointTurns.mono : ∀ a0 k, LeO (arraslaw3_PointTurns.f k a0) (arraslaw3_PointTurns.f (k + 1) a0) := by
  intro a0 k
  obtain ⟨ih0, ih1, ih2, ih3, ih4, ih5⟩ := arraslaw3_PointTurns.mono_l k
  unfold arraslaw3_PointTurns.f
  repeat' first
      | (with_reducible exact ih0 _ _)
      | (with_reducible exact ih1 _ _ _)
      | (with_reducible exact ih2 _ _ _)
      | (with_reducible exact ih3 _ _ _ _ _ _)
      | (with_reducible exact ih4 _ _ _ _)
      | (with_reducible exact ih5 _ _ _)
      | (with_reducible exact arraslaw3_wakes.mono _)
      | (with_reducible exact point_Add.mono _ _ _)
      | (with_reducible exact point_Sub.mono _ _ _)
      | (with_reducible exact point_Turn.mono _ _)
      | (with_reducible exact LeO.refl _)
      | (with_reducible exact LeO.none _)
      | (with_reducible refine LeO.ite ?_ ?_)
      | (with_reducible refine LeO.bind ?_ (fun _ => ?_))
      | exact ih0 _ _
      | exact ih1 _ _ _
      | exact ih2 _ _ _
      | exact ih3 _ _ _ _ _ _
      | exact ih4 _ _ _ _
      | exact ih5 _ _ _
      | exact arraslaw3_wakes.mono _
      | exact point_Add.mono _ _ _
      | exact point_Sub.mono _ _ _
      | exact point_Turn.mono _ _
      | exact LeO.none _
      | refine LeO.ite ?_ ?_
      | refine LeO.bind ?_ (fun _ => ?_)
def arraslaw3_PointTurns.T7 : Bool × List (List Nat × List Nat) := (true, [([], []), ([], []), ([0, 1], [0, 1]), ([2], [2]), ([], []), ([3, 4], [3, 4]), ([], []), ([], []), ([6, 7], [6, 7]), ([8], [8]), ([], []), ([10], [10]), ([11], [11]), ([9, 12, 5], [9, 12]), ([5, 13, 0, 1, 2, 3, 4, 5], [5]), ([13, 14, 0, 1, 2, 3, 4, 5, 6, 7, 8, 9, 10, 11, 12, 13, 14], [13])])
def arraslaw3_PointTurns.B7 : List Nat := [0, 0, 3, 7, 0, 31, 0, 0, 192, 448, 0, 1024, 3072, 8191, 16383, 32767]
theorem arraslaw3_PointTurns.tab7 : rtab .any (opsOf Try.f4 7) = arraslaw3_PointTurns.T7 := by kernel_rfl
theorem arraslaw3_PointTurns.bits7 : waitsOk arraslaw3_PointTurns.T7.2 arraslaw3_PointTurns.B7 = true := by kernel_rfl
def arraslaw3_PointTurns.T17 : Bool × List (List Nat × List Nat) := (true, [([], []), ([], []), ([0, 1], [0, 1]), ([2], [2]), ([3], [3]), ([4], [4]), ([], []), ([], []), ([6, 7], [6, 7]), ([8], [8]), ([9], [9]), ([10, 5], [10]), ([5, 11, 11], [5, 11]), ([12], [12]), ([13], [13]), ([13], [13]), ([14, 12, 0, 1, 2, 3, 4, 5, 6, 7, 8, 9, 10, 11, 12, 13, 14], [14]), ([15, 16, 0, 1, 2, 3, 4, 5, 6, 7, 8, 9, 10, 11, 12, 13, 14, 15, 16], [15])])
def arraslaw3_PointTurns.B17 : List Nat := [0, 0, 3, 7, 15, 31, 0, 0, 192, 448, 960, 2047, 4095, 8191, 16383, 16383, 32767, 131071]
theorem arraslaw3_PointTurns.tab17 : rtab .any (opsOf Try.f4 17) = arraslaw3_PointTurns.T17 := by kernel_rfl
theorem arraslaw3_PointTurns.bits17 : waitsOk arraslaw3_PointTurns.T17.2 arraslaw3_PointTurns.B17 = true := by kernel_rfl
def arraslaw3_PointTurns.T18 : Bool × List (List Nat × List Nat) := (true, [([], []), ([], []), ([0, 1], [0, 1]), ([2], [2]), ([3], [3]), ([4], [4]), ([5], [5]), ([], []), ([], []), ([7, 8], [7, 8]), ([9], [9]), ([10], [10]), ([11, 5], [11]), ([6, 12, 12], [6, 12]), ([13], [13]), ([14], [14]), ([14], [14]), ([15, 13, 0, 1, 2, 3, 4, 5, 6, 7, 8, 9, 10, 11, 12, 13, 14, 15], [15]), ([16, 17, 0, 1, 2, 3, 4, 5, 6, 7, 8, 9, 10, 11, 12, 13, 14, 15, 16, 17], [16])])
def arraslaw3_PointTurns.B18 : List Nat := [0, 0, 3, 7, 15, 31, 63, 0, 0, 384, 896, 1920, 4031, 8191, 16383, 32767, 32767, 65535, 262143]
theorem arraslaw3_PointTurns.tab18 : rtab .any (opsOf Try.f4 18) = arraslaw3_PointTurns.T18 := by kernel_rfl
theorem arraslaw3_PointTurns.bits18 : waitsOk arraslaw3_PointTurns.T18.2 arraslaw3_PointTurns.B18 = true := by kernel_rfl
abbrev pointTurnsMask0 : Array Bool := #[false, false, false, false, false, false, false, false, false, false, false, false, false, false, false, false, false, false, false]
abbrev pointTurnsMask1 : Array Bool := #[false, false, false, false, false, false, false, false, false, false, false, false, false, false, false, false, false, false]
abbrev pointTurnsMask2 : Array Bool := #[false, false, false, false, false, false, false, false, false, false, false, false, false, false, false, false]
abbrev pointTurnsMask3 : Array Bool := #[true, false, false, false, false, false, false, false, false, false, false, false, false, false, false, false, false, false, false]
abbrev pointTurnsMask4 : Array Bool := #[true, false, false, false, false, false, false, false, false, false, false, false, false, false, false, false, false, false]
abbrev pointTurnsMask5 : Array Bool := #[true, false, false, false, false, false, false, false, false, false, false, false, false, false, false, false]
abbrev pointTurnsMask6 : Array Bool := #[true, true, false, false, false, false, false, false, false, false, false, false, false, false, false, false, false, false, false]
abbrev pointTurnsMask7 : Array Bool := #[true, true, false, false, false, false, false, false, false, false, false, false, false, false, false, false, false, false]
abbrev pointTurnsMask8 : Array Bool := #[true, true, false, false, false, false, false, false, false, false, false, false, false, false, false, false]
abbrev pointTurnsMask9 : Array Bool := #[true, true, true, false, false, false, false, false, false, false, false, false, false, false, false, false, false, false, false]
abbrev pointTurnsMask10 : Array Bool := #[true, true, true, false, false, false, false, false, false, false, false, false, false, false, false, false, false, false]
abbrev pointTurnsMask11 : Array Bool := #[true, true, true, false, false, false, false, false, false, false, false, false, false, false, false, false]
abbrev pointTurnsMask12 : Array Bool := #[true, true, true, false, true, false, false, false, false, false, false, false, false, false, false, false]
abbrev pointTurnsMask13 : Array Bool := #[true, true, true, false, true, false, true, false, false, false, false, false, false, false, false, false]
abbrev pointTurnsMask14 : Array Bool := #[true, true, true, false, true, false, true, true, false, false, false, false, false, false, false, false]
abbrev pointTurnsMask15 : Array Bool := #[true, true, true, false, true, false, true, true, true, false, false, false, false, false, false, false]
abbrev pointTurnsMask16 : Array Bool := #[true, true, true, false, true, false, true, true, true, false, true, false, false, false, false, false]
abbrev pointTurnsMask17 : Array Bool := #[true, true, true, false, true, false, true, true, true, false, true, true, false, false, false, false]
abbrev pointTurnsMask18 : Array Bool := #[true, true, true, false, true, false, true, true, true, false, true, true, true, false, false, false]
abbrev pointTurnsMask19 : Array Bool := #[true, true, true, true, false, false, false, false, false, false, false, false, false, false, false, false, false, false, false]
abbrev pointTurnsMask20 : Array Bool := #[true, true, true, true, false, false, false, false, false, false, false, false, false, false, false, false, false, false]
abbrev pointTurnsMask21 : Array Bool := #[true, true, true, true, false, false, false, true, false, false, false, false, false, false, false, false, false, false, false]
abbrev pointTurnsMask22 : Array Bool := #[true, true, true, true, false, false, false, true, true, false, false, false, false, false, false, false, false, false, false]
abbrev pointTurnsMask23 : Array Bool := #[true, true, true, true, false, false, false, true, true, true, false, false, false, false, false, false, false, false, false]
abbrev pointTurnsMask24 : Array Bool := #[true, true, true, true, false, false, false, true, true, true, true, false, false, false, false, false, false, false, false]
abbrev pointTurnsMask25 : Array Bool := #[true, true, true, true, false, false, true, false, false, false, false, false, false, false, false, false, false, false]
abbrev pointTurnsMask26 : Array Bool := #[true, true, true, true, false, false, true, true, false, false, false, false, false, false, false, false, false, false]
abbrev pointTurnsMask27 : Array Bool := #[true, true, true, true, false, false, true, true, true, false, false, false, false, false, false, false, false, false]
abbrev pointTurnsMask28 : Array Bool := #[true, true, true, true, false, false, true, true, true, true, false, false, false, false, false, false, false, false]
abbrev pointTurnsMask29 : Array Bool := #[true, true, true, true, true, false, false, true, true, true, true, false, false, false, false, false, false, false, false]
abbrev pointTurnsMask30 : Array Bool := #[true, true, true, true, true, false, false, true, true, true, true, true, false, false, false, false, false, false, false]
abbrev pointTurnsMask31 : Array Bool := #[true, true, true, true, true, false, true, true, true, false, true, true, true, false, false, false]
abbrev pointTurnsMask32 : Array Bool := #[true, true, true, true, true, false, true, true, true, true, false, false, false, false, false, false, false, false]
abbrev pointTurnsMask33 : Array Bool := #[true, true, true, true, true, false, true, true, true, true, true, false, false, false, false, false, false, false]
abbrev pointTurnsMask34 : Array Bool := #[true, true, true, true, true, false, true, true, true, true, true, true, true, false, false, false]
abbrev pointTurnsMask35 : Array Bool := #[true, true, true, true, true, true, false, true, true, true, true, true, false, false, false, false, false, false, false]
abbrev pointTurnsMask36 : Array Bool := #[true, true, true, true, true, true, true, true, true, true, true, false, false, false, false, false, false, false]
abbrev pointTurnsMask37 : Array Bool := #[true, true, true, true, true, true, true, true, true, true, true, true, false, false, false, false, false, false, false]
abbrev pointTurnsMask38 : Array Bool := #[true, true, true, true, true, true, true, true, true, true, true, true, false, false, false, false, false, false]
abbrev pointTurnsMask39 : Array Bool := #[true, true, true, true, true, true, true, true, true, true, true, true, true, false, false, false, false, false, false]
abbrev pointTurnsMask40 : Array Bool := #[true, true, true, true, true, true, true, true, true, true, true, true, true, false, false, false, false, false]
abbrev pointTurnsMask41 : Array Bool := #[true, true, true, true, true, true, true, true, true, true, true, true, true, false, false, false]
abbrev pointTurnsMask42 : Array Bool := #[true, true, true, true, true, true, true, true, true, true, true, true, true, true, false, false, false, false, false]
abbrev pointTurnsMask43 : Array Bool := #[true, true, true, true, true, true, true, true, true, true, true, true, true, true, false, false, false, false]
abbrev pointTurnsMask44 : Array Bool := #[true, true, true, true, true, true, true, true, true, true, true, true, true, true, false, false]
abbrev pointTurnsMask45 : Array Bool := #[true, true, true, true, true, true, true, true, true, true, true, true, true, true, true, false, false, false, false]
abbrev pointTurnsMask46 : Array Bool := #[true, true, true, true, true, true, true, true, true, true, true, true, true, true, true, false, false, false]
abbrev pointTurnsMask47 : Array Bool := #[true, true, true, true, true, true, true, true, true, true, true, true, true, true, true, false]
abbrev pointTurnsMask48 : Array Bool := #[true, true, true, true, true, true, true, true, true, true, true, true, true, true, true, true, false, false, false]
abbrev pointTurnsMask49 : Array Bool := #[true, true, true, true, true, true, true, true, true, true, true, true, true, true, true, true, false, false]
abbrev pointTurnsMask50 : Array Bool := #[true, true, true, true, true, true, true, true, true, true, true, true, true, true, true, true, true, false, false]
abbrev pointTurnsMask51 : Array Bool := #[true, true, true, true, true, true, true, true, true, true, true, true, true, true, true, true, true, false]
abbrev pointTurnsMask52 : Array Bool := #[true, true, true, true, true, true, true, true, true, true, true, true, true, true, true, true, true, true, false]
abbrev pointTurnsMask53 : Array Bool := #[true, true, true, true, true, true, true, true, true, true, true, true, true, true, true, true, true, true, true]
abbrev pointTurnsMask54 : Array Bool := #[true, true, true, true, true, true, true, true, true, true, true, true, true, true, true, true, true, true]
abbrev pointTurnsMask55 : Array Bool := #[true, true, true, true, true, true, true, true, true, true, true, true, true, true, true, true]
set_option maxHeartbeats 8000000 in
set_option maxRecDepth 100000 in
theorem arraslaw3_PointTurns.calls (k : Nat) (A0 : Option Addr) (c0 : Nat) (l0 : List (S26)) (r : Bool) (w : World) (hr0 : Kd.C k26 w A0 l0.length l0) (hc0 : l0.length ≤ c0) (h : arraslaw3_PointTurns.f k l0 = some r) :
  Calls Try.prog 4 #[.slice A0 l0.length c0] w fun e w' => e = .returned (.bool r) ∧ Below w.heap.size w w' := by
 have hu26 := Try.underlying26
 have HR0 := Aside0.mk hr0; have HC0 := Aside0.mk hc0; clear hr0 hc0; have HB := Aside0.mk (Below.refl w.heap.size w)
 have H : (arraslaw3_PointTurns.l0 k l0 0) = some r := h
 clear h
 have H' := Aside0.mk H
 clear H
 go_enter Try.func4, Try.ntmps4
 go_wp2
 go_loopg [3] k (fun kq v3 w' => ∃ (x3_1 : Int), v3 = .int .i64 x3_1 ∧ Aside0 (arraslaw3_PointTurns.l0 kq l0 x3_1 = some r) ∧ Aside0 (kq ≤ k) ∧ Aside0 (Below w.heap.size w w'))
 case atStart => exact ⟨(0), (by first | rfl | (simp; done) | (simp [*]; done)), H', ⟨Nat.le_refl _⟩, ⟨by repeat (first | (with_reducible first | exact HB.out | apply below_alloc | apply pw_below_drewN | apply below_drew1) | exact HB.out)⟩⟩
 case round => as_aux_lemma =>
  clear H'
  obtain ⟨x3_1, rfl, HA, HK1, HB⟩ := hrel
  cases gk with
  | zero => exact absurd HA.out (by simp [arraslaw3_PointTurns.l0])
  | succ k1 =>
   have H := HA.out
   clear HA
   simp only [arraslaw3_PointTurns.l0] at H
   have HC2 := Aside0.mk H; clear H
   go_upto_region 2 with (fail)
   go_cut [28] (fun v28 wc => ∃ (kq : Nat) (x28_1 : Bool), v28 = .bool x28_1 ∧ Aside0 (arraslaw3_PointTurns.j1 kq l0 x3_1 x28_1 = some r) ∧ Aside0 (kq ≤ k1) ∧ Aside0 (Below w.heap.size w wc))
   case first => as_aux_lemma =>
    have H := HC2.out
    clear HC2
    by_cases c3 : x3_1 < (l0.length : Int)
    ·rw [if_pos c3] at H
     have c3b0 : decide (x3_1 < (l0.length : Int)) = true := decide_eq_true c3
     clear c3
     (first | rw [c3b0] | (simp only [i64_w, i32_w]; rw [c3b0]) | skip)
     have H' := Aside0.mk H
     clear H
     go_wp2
     go_meet
     case rel => exact ⟨_, (decide (x3_1 < 12)), (by first | rfl | (simp; done) | (simp [*]; done)), H', ⟨by have := HK1.out; first | omega | exact Nat.le_refl _⟩, ⟨by repeat (first | (with_reducible first | exact HB.out | apply below_alloc | apply pw_below_drewN | apply below_drew1) | exact HB.out)⟩⟩
    ·rw [if_neg c3] at H
     have c3b0 : decide (x3_1 < (l0.length : Int)) = false := decide_eq_false c3
     clear c3
     (first | rw [c3b0] | (simp only [i64_w, i32_w]; rw [c3b0]) | skip)
     have H' := Aside0.mk H
     clear H
     go_wp2
     go_meet
     case rel => exact ⟨_, (false), (by first | rfl | (simp; done) | (simp [*]; done)), H', ⟨by have := HK1.out; first | omega | exact Nat.le_refl _⟩, ⟨by repeat (first | (with_reducible first | exact HB.out | apply below_alloc | apply pw_below_drewN | apply below_drew1) | exact HB.out)⟩⟩
   case rest => as_aux_lemma =>
    clear HC2
    try clear p2
    try clear c3
    try clear c3b0
    obtain ⟨kq, x28_1, rfl, HA, HJ1, HB⟩ := hcut
    cases kq with
    | zero => exact absurd HA.out (by simp [arraslaw3_PointTurns.j1])
    | succ kj1 =>
     have H := HA.out
     clear HA
     simp only [arraslaw3_PointTurns.j1] at H
     by_cases c4 : x28_1 = true
     ·subst c4
      have H1 : (arraslaw3_PointTurns.l1 kj1 l0 x3_1 0) = some r := by rw [if_pos rfl] at H; exact H
      clear H; have H := H1; clear H1
      have H' := Aside0.mk H
      clear H
      go_wp2
      go_loopg [4] kj1 (fun kq v4 w' => ∃ (x4_3 : Int), v4 = .int .i64 x4_3 ∧ Aside0 (arraslaw3_PointTurns.l1 kq l0 x3_1 x4_3 = some r) ∧ Aside0 (kq ≤ kj1) ∧ Aside0 (Below w.heap.size w w'))
      case atStart => exact ⟨(0), (by first | rfl | (simp; done) | (simp [*]; done)), H', ⟨Nat.le_refl _⟩, ⟨by repeat (first | (with_reducible first | exact HB.out | apply below_alloc | apply pw_below_drewN | apply below_drew1) | exact HB.out)⟩⟩
      case round => as_aux_lemma =>
       clear H'
       try clear p2
       try clear c3
       try clear c3b0
       try clear c4
       try clear p2
       obtain ⟨x4_3, rfl, HA, HK3, HB⟩ := hrel
       cases gk with
       | zero => exact absurd HA.out (by simp [arraslaw3_PointTurns.l1])
       | succ k3 =>
        have H := HA.out
        clear HA
        simp only [arraslaw3_PointTurns.l1] at H
        by_cases c5 : x4_3 < 4
        ·rw [if_pos c5] at H
         have c5b0 : decide (x4_3 < 4) = true := decide_eq_true c5
         clear c5
         by_cases c6 : 0 ≤ x3_1
         ·rw [if_pos c6] at H
          have c6b0 : decide (0 ≤ x3_1) = true := decide_eq_true c6
          clear c6
          by_cases c7 : x3_1 < (l0.length : Int)
          ·rw [if_pos c7] at H
           have c7b0 : decide (x3_1 < (l0.length : Int)) = true := decide_eq_true c7
           clear c7
           replace H := Option.bind_eq_some_iff.mp H
           obtain ⟨t229, A80, H⟩ := H
           replace H : ((arraslaw3_Ask_c.f ((rd_T26 l0 x3_1).f0) ((rd_T26 l0 x3_1).f1) ((rd_T26 l0 x3_1).f2.f0) ((rd_T26 l0 x3_1).f2.f1) ((rd_T26 l0 x3_1).f2.f2) ((rd_T26 l0 x3_1).f2.f3) ((rd_T26 l0 x3_1).f2.f4) ((rd_T26 l0 x3_1).f2.f5) ((rd_T26 l0 x3_1).f2.f6) ((rd_T26 l0 x3_1).f2.f7) (Int.tmod (wrap64 (x4_3 + 1)) 4)).bind fun t231 => ((point_Turn.f k3 t229).bind fun bt232 => ((arraslaw3_num.f bt232.2).bind fun t234 => (if t234 = 0 then ((point_Turn.f k3 bt232.1).bind fun bt235 => ((arraslaw3_num.f bt235.2).bind fun t237 => (if t237 = 0 then (if ((feq bt235.1.1 t229.1 && feq bt235.1.2 t229.2) = true) then (if ((feq bt232.1.1 t229.2) = true) then (arraslaw3_PointTurns.j3 k3 l0 x3_1 x4_3 t229 t231 (!feq bt232.1.2 t229.1)) else (arraslaw3_PointTurns.j3 k3 l0 x3_1 x4_3 t229 t231 true)) else (arraslaw3_PointTurns.j3 k3 l0 x3_1 x4_3 t229 t231 true)) else (arraslaw3_PointTurns.j3 k3 l0 x3_1 x4_3 t229 t231 true)))) else (arraslaw3_PointTurns.l1 k3 l0 x3_1 (wrap64 (x4_3 + 1))))))) = some r := H
           have A8 := Aside0.mk A80; clear A80
           replace H := Option.bind_eq_some_iff.mp H
           obtain ⟨t231, A90, H⟩ := H
           replace H : ((point_Turn.f k3 t229).bind fun bt232 => ((arraslaw3_num.f bt232.2).bind fun t234 => (if t234 = 0 then ((point_Turn.f k3 bt232.1).bind fun bt235 => ((arraslaw3_num.f bt235.2).bind fun t237 => (if t237 = 0 then (if ((feq bt235.1.1 t229.1 && feq bt235.1.2 t229.2) = true) then (if ((feq bt232.1.1 t229.2) = true) then (arraslaw3_PointTurns.j3 k3 l0 x3_1 x4_3 t229 t231 (!feq bt232.1.2 t229.1)) else (arraslaw3_PointTurns.j3 k3 l0 x3_1 x4_3 t229 t231 true)) else (arraslaw3_PointTurns.j3 k3 l0 x3_1 x4_3 t229 t231 true)) else (arraslaw3_PointTurns.j3 k3 l0 x3_1 x4_3 t229 t231 true)))) else (arraslaw3_PointTurns.l1 k3 l0 x3_1 (wrap64 (x4_3 + 1)))))) = some r := H
           have A9 := Aside0.mk A90; clear A90
           replace H := Option.bind_eq_some_iff.mp H
           obtain ⟨⟨t232, t233⟩, A100, H⟩ := H
           replace H : ((arraslaw3_num.f t233).bind fun t234 => (if t234 = 0 then ((point_Turn.f k3 t232).bind fun bt235 => ((arraslaw3_num.f bt235.2).bind fun t237 => (if t237 = 0 then (if ((feq bt235.1.1 t229.1 && feq bt235.1.2 t229.2) = true) then (if ((feq t232.1 t229.2) = true) then (arraslaw3_PointTurns.j3 k3 l0 x3_1 x4_3 t229 t231 (!feq t232.2 t229.1)) else (arraslaw3_PointTurns.j3 k3 l0 x3_1 x4_3 t229 t231 true)) else (arraslaw3_PointTurns.j3 k3 l0 x3_1 x4_3 t229 t231 true)) else (arraslaw3_PointTurns.j3 k3 l0 x3_1 x4_3 t229 t231 true)))) else (arraslaw3_PointTurns.l1 k3 l0 x3_1 (wrap64 (x4_3 + 1))))) = some r := H
           have A10 := Aside0.mk A100; clear A100
           replace H := Option.bind_eq_some_iff.mp H
           obtain ⟨t234, A110, H⟩ := H
           replace H : (if t234 = 0 then ((point_Turn.f k3 t232).bind fun bt235 => ((arraslaw3_num.f bt235.2).bind fun t237 => (if t237 = 0 then (if ((feq bt235.1.1 t229.1 && feq bt235.1.2 t229.2) = true) then (if ((feq t232.1 t229.2) = true) then (arraslaw3_PointTurns.j3 k3 l0 x3_1 x4_3 t229 t231 (!feq t232.2 t229.1)) else (arraslaw3_PointTurns.j3 k3 l0 x3_1 x4_3 t229 t231 true)) else (arraslaw3_PointTurns.j3 k3 l0 x3_1 x4_3 t229 t231 true)) else (arraslaw3_PointTurns.j3 k3 l0 x3_1 x4_3 t229 t231 true)))) else (arraslaw3_PointTurns.l1 k3 l0 x3_1 (wrap64 (x4_3 + 1)))) = some r := H
           have A11 := Aside0.mk A110; clear A110
           by_cases c12 : t234 = 0
           ·rw [if_pos c12] at H
            have c12b0 : (t234 == 0) = true := beq_iff_eq.mpr c12
            have c12b1 : (t234 != 0) = false := bne_eq_false_iff_eq.mpr c12
            clear c12
            replace H := Option.bind_eq_some_iff.mp H
            obtain ⟨⟨t235, t236⟩, A130, H⟩ := H
            replace H : ((arraslaw3_num.f t236).bind fun t237 => (if t237 = 0 then (if ((feq t235.1 t229.1 && feq t235.2 t229.2) = true) then (if ((feq t232.1 t229.2) = true) then (arraslaw3_PointTurns.j3 k3 l0 x3_1 x4_3 t229 t231 (!feq t232.2 t229.1)) else (arraslaw3_PointTurns.j3 k3 l0 x3_1 x4_3 t229 t231 true)) else (arraslaw3_PointTurns.j3 k3 l0 x3_1 x4_3 t229 t231 true)) else (arraslaw3_PointTurns.j3 k3 l0 x3_1 x4_3 t229 t231 true))) = some r := H
            have A13 := Aside0.mk A130; clear A130; have HC14 := Aside0.mk H; clear H
            try go_wp2
            have n0_ := Aside0.mk (below_drew1 HB.out); clear HB; have HB := n0_; clear n0_; have p228 : 0 ≤ (x3_1 : Int) := of_decide_eq_true (by first | (with_reducible assumption) | assumption); have q228 : x3_1 < (l0.length : Int) := of_decide_eq_true (by first | (with_reducible assumption) | assumption)
            obtain ⟨ad228, e228, hx228_0, hx228_1, hx228_2, hx228_3, hx228_4, hx228_5, hx228_6, hx228_7, hx228_8, hx228_9⟩ := at_T26 HR0.out x3_1 p228 q228
            have hw228_9 := hx228_9; have hw228_8 := hx228_8; have hw228_7 := hx228_7; have hw228_6 := hx228_6; have hw228_5 := hx228_5; have hw228_4 := hx228_4; have hw228_3 := hx228_3; have hw228_2 := hx228_2; have hw228_1 := hx228_1; have hw228_0 := hx228_0; cases e228
            replace hx228_0 := (HB.out.cell (World.block_lt_of_cell? w _ hx228_0)).trans hx228_0
            replace hx228_1 := (HB.out.cell (World.block_lt_of_cell? w _ hx228_1)).trans hx228_1
            replace hx228_2 := (HB.out.cell (World.block_lt_of_cell? w _ hx228_2)).trans hx228_2
            replace hx228_3 := (HB.out.cell (World.block_lt_of_cell? w _ hx228_3)).trans hx228_3
            replace hx228_4 := (HB.out.cell (World.block_lt_of_cell? w _ hx228_4)).trans hx228_4
            replace hx228_5 := (HB.out.cell (World.block_lt_of_cell? w _ hx228_5)).trans hx228_5
            replace hx228_6 := (HB.out.cell (World.block_lt_of_cell? w _ hx228_6)).trans hx228_6
            replace hx228_7 := (HB.out.cell (World.block_lt_of_cell? w _ hx228_7)).trans hx228_7
            replace hx228_8 := (HB.out.cell (World.block_lt_of_cell? w _ hx228_8)).trans hx228_8
            replace hx228_9 := (HB.out.cell (World.block_lt_of_cell? w _ hx228_9)).trans hx228_9
            replace p228 := eq_true p228; replace q228 := eq_true q228; have p230 : 0 ≤ (x3_1 : Int) := of_decide_eq_true (by first | (with_reducible assumption) | assumption); have q230 : x3_1 < (l0.length : Int) := of_decide_eq_true (by first | (with_reducible assumption) | assumption)
            obtain ⟨ad230, e230, hx230_0, hx230_1, hx230_2, hx230_3, hx230_4, hx230_5, hx230_6, hx230_7, hx230_8, hx230_9⟩ := at_T26 HR0.out x3_1 p230 q230
            have hw230_9 := hx230_9; have hw230_8 := hx230_8; have hw230_7 := hx230_7; have hw230_6 := hx230_6; have hw230_5 := hx230_5; have hw230_4 := hx230_4; have hw230_3 := hx230_3; have hw230_2 := hx230_2; have hw230_1 := hx230_1; have hw230_0 := hx230_0; obtain rfl : ad228 = ad230 := (by injection e230)
            replace hx230_0 := (HB.out.cell (World.block_lt_of_cell? w _ hx230_0)).trans hx230_0
            replace hx230_1 := (HB.out.cell (World.block_lt_of_cell? w _ hx230_1)).trans hx230_1
            replace hx230_2 := (HB.out.cell (World.block_lt_of_cell? w _ hx230_2)).trans hx230_2
            replace hx230_3 := (HB.out.cell (World.block_lt_of_cell? w _ hx230_3)).trans hx230_3
            replace hx230_4 := (HB.out.cell (World.block_lt_of_cell? w _ hx230_4)).trans hx230_4
            replace hx230_5 := (HB.out.cell (World.block_lt_of_cell? w _ hx230_5)).trans hx230_5
            replace hx230_6 := (HB.out.cell (World.block_lt_of_cell? w _ hx230_6)).trans hx230_6
            replace hx230_7 := (HB.out.cell (World.block_lt_of_cell? w _ hx230_7)).trans hx230_7
            replace hx230_8 := (HB.out.cell (World.block_lt_of_cell? w _ hx230_8)).trans hx230_8
            replace hx230_9 := (HB.out.cell (World.block_lt_of_cell? w _ hx230_9)).trans hx230_9
            replace p230 := eq_true p230; replace q230 := eq_true q230
            refine start_ (n := 16) (S := fun w' => w'.cell? (ad228.add ((x3_1).toNat * 10)) = some (.int .i64 ((rd_T26 l0 x3_1).f0)) ∧ w'.cell? ⟨(ad228.add ((x3_1).toNat * 10)).block, (ad228.add ((x3_1).toNat * 10)).off + 1, none⟩ = some (.int .i64 ((rd_T26 l0 x3_1).f1)) ∧ w'.cell? ⟨(ad228.add ((x3_1).toNat * 10)).block, (ad228.add ((x3_1).toNat * 10)).off + 2, none⟩ = some (.float .f64 ((rd_T26 l0 x3_1).f2.f0)) ∧ w'.cell? ⟨(ad228.add ((x3_1).toNat * 10)).block, (ad228.add ((x3_1).toNat * 10)).off + 3, none⟩ = some (.float .f64 ((rd_T26 l0 x3_1).f2.f1)) ∧ w'.cell? ⟨(ad228.add ((x3_1).toNat * 10)).block, (ad228.add ((x3_1).toNat * 10)).off + 4, none⟩ = some (.float .f64 ((rd_T26 l0 x3_1).f2.f2)) ∧ w'.cell? ⟨(ad228.add ((x3_1).toNat * 10)).block, (ad228.add ((x3_1).toNat * 10)).off + 5, none⟩ = some (.float .f64 ((rd_T26 l0 x3_1).f2.f3)) ∧ w'.cell? ⟨(ad228.add ((x3_1).toNat * 10)).block, (ad228.add ((x3_1).toNat * 10)).off + 6, none⟩ = some (.float .f64 ((rd_T26 l0 x3_1).f2.f4)) ∧ w'.cell? ⟨(ad228.add ((x3_1).toNat * 10)).block, (ad228.add ((x3_1).toNat * 10)).off + 7, none⟩ = some (.float .f64 ((rd_T26 l0 x3_1).f2.f5)) ∧ w'.cell? ⟨(ad228.add ((x3_1).toNat * 10)).block, (ad228.add ((x3_1).toNat * 10)).off + 8, none⟩ = some (.float .f64 ((rd_T26 l0 x3_1).f2.f6)) ∧ w'.cell? ⟨(ad228.add ((x3_1).toNat * 10)).block, (ad228.add ((x3_1).toNat * 10)).off + 9, none⟩ = some (.float .f64 ((rd_T26 l0 x3_1).f2.f7)) ∧ w'.cell? (ad228.add ((x3_1).toNat * 10)) = some (.int .i64 ((rd_T26 l0 x3_1).f0)) ∧ w'.cell? ⟨(ad228.add ((x3_1).toNat * 10)).block, (ad228.add ((x3_1).toNat * 10)).off + 1, none⟩ = some (.int .i64 ((rd_T26 l0 x3_1).f1)) ∧ w'.cell? ⟨(ad228.add ((x3_1).toNat * 10)).block, (ad228.add ((x3_1).toNat * 10)).off + 2, none⟩ = some (.float .f64 ((rd_T26 l0 x3_1).f2.f0)) ∧ w'.cell? ⟨(ad228.add ((x3_1).toNat * 10)).block, (ad228.add ((x3_1).toNat * 10)).off + 3, none⟩ = some (.float .f64 ((rd_T26 l0 x3_1).f2.f1)) ∧ w'.cell? ⟨(ad228.add ((x3_1).toNat * 10)).block, (ad228.add ((x3_1).toNat * 10)).off + 4, none⟩ = some (.float .f64 ((rd_T26 l0 x3_1).f2.f2)) ∧ w'.cell? ⟨(ad228.add ((x3_1).toNat * 10)).block, (ad228.add ((x3_1).toNat * 10)).off + 5, none⟩ = some (.float .f64 ((rd_T26 l0 x3_1).f2.f3)) ∧ w'.cell? ⟨(ad228.add ((x3_1).toNat * 10)).block, (ad228.add ((x3_1).toNat * 10)).off + 6, none⟩ = some (.float .f64 ((rd_T26 l0 x3_1).f2.f4)) ∧ w'.cell? ⟨(ad228.add ((x3_1).toNat * 10)).block, (ad228.add ((x3_1).toNat * 10)).off + 7, none⟩ = some (.float .f64 ((rd_T26 l0 x3_1).f2.f5)) ∧ w'.cell? ⟨(ad228.add ((x3_1).toNat * 10)).block, (ad228.add ((x3_1).toNat * 10)).off + 8, none⟩ = some (.float .f64 ((rd_T26 l0 x3_1).f2.f6)) ∧ w'.cell? ⟨(ad228.add ((x3_1).toNat * 10)).block, (ad228.add ((x3_1).toNat * 10)).off + 9, none⟩ = some (.float .f64 ((rd_T26 l0 x3_1).f2.f7))) (ds := []) pointTurnsMask2 (by kernel_rfl) rfl rfl ⟨((HB.out.cell (World.block_lt_of_cell? w _ hw228_0)).trans hw228_0), ((HB.out.cell (World.block_lt_of_cell? w _ hw228_1)).trans hw228_1), ((HB.out.cell (World.block_lt_of_cell? w _ hw228_2)).trans hw228_2), ((HB.out.cell (World.block_lt_of_cell? w _ hw228_3)).trans hw228_3), ((HB.out.cell (World.block_lt_of_cell? w _ hw228_4)).trans hw228_4), ((HB.out.cell (World.block_lt_of_cell? w _ hw228_5)).trans hw228_5), ((HB.out.cell (World.block_lt_of_cell? w _ hw228_6)).trans hw228_6), ((HB.out.cell (World.block_lt_of_cell? w _ hw228_7)).trans hw228_7), ((HB.out.cell (World.block_lt_of_cell? w _ hw228_8)).trans hw228_8), ((HB.out.cell (World.block_lt_of_cell? w _ hw228_9)).trans hw228_9), ((HB.out.cell (World.block_lt_of_cell? w _ hw230_0)).trans hw230_0), ((HB.out.cell (World.block_lt_of_cell? w _ hw230_1)).trans hw230_1), ((HB.out.cell (World.block_lt_of_cell? w _ hw230_2)).trans hw230_2), ((HB.out.cell (World.block_lt_of_cell? w _ hw230_3)).trans hw230_3), ((HB.out.cell (World.block_lt_of_cell? w _ hw230_4)).trans hw230_4), ((HB.out.cell (World.block_lt_of_cell? w _ hw230_5)).trans hw230_5), ((HB.out.cell (World.block_lt_of_cell? w _ hw230_6)).trans hw230_6), ((HB.out.cell (World.block_lt_of_cell? w _ hw230_7)).trans hw230_7), ((HB.out.cell (World.block_lt_of_cell? w _ hw230_8)).trans hw230_8), ((HB.out.cell (World.block_lt_of_cell? w _ hw230_9)).trans hw230_9)⟩ (fun hHeld => ?_); refine with_tabW arraslaw3_PointTurns.tab7 arraslaw3_PointTurns.bits7 (fun HT_ HW_ => ?_)
            generalize wr.drew = w15 at HB hx228_0 hx228_1 hx228_2 hx228_3 hx228_4 hx228_5 hx228_6 hx228_7 hx228_8 hx228_9 hx230_0 hx230_1 hx230_2 hx230_3 hx230_4 hx230_5 hx230_6 hx230_7 hx230_8 hx230_9 hHeld ⊢
            refine pure_ (i := 0) (N := some 35) (v := ?_) (a' := ?_) pointTurnsMask5 rfl rfl (any_of HT_.out (by kernel_rfl)) (fun _ _ _ h => h) (Or.inl ⟨by rfl, ?_⟩) ?_ ?_
            rotate_left
            ·intro w'; go_simp
             with_reducible rfl
            rotate_left
            ·simp only [Act.put, List.setIfInBounds_toArray, List.set_cons_zero, List.set_cons_succ, i64_w, i32_w]
             rfl
            refine pure_ (i := 1) (N := some 36) (v := ?_) (a' := ?_) pointTurnsMask8 rfl rfl (any_of HT_.out (by kernel_rfl)) (fun _ _ _ h => h) (Or.inl ⟨by rfl, ?_⟩) ?_ ?_
            rotate_left
            ·intro w'; go_simp
             with_reducible rfl
            rotate_left
            ·simp only [Act.put, List.setIfInBounds_toArray, List.set_cons_zero, List.set_cons_succ, i64_w, i32_w]
             rfl
            refine pure_ (i := 2) (N := some 37) (v := ?_) (a' := ?_) pointTurnsMask11 rfl rfl (any_of HT_.out (by kernel_rfl)) (fun _ _ _ h => h) (Or.inl ⟨by rfl, ?_⟩) ?_ ?_
            rotate_left
            ·intro w'; go_simp
             with_reducible rfl
            rotate_left
            ·simp only [Act.put, List.setIfInBounds_toArray, List.set_cons_zero, List.set_cons_succ, i64_w, i32_w]
             rfl
            refine pure_ (i := 4) (N := some 39) (v := ?_) (a' := ?_) pointTurnsMask12 rfl rfl (any_of HT_.out (by kernel_rfl)) (fun _ _ _ h => h) (Or.inl ⟨by rfl, ?_⟩) ?_ ?_
            rotate_left
            ·intro w'; go_simp
             with_reducible rfl
            rotate_left
            ·simp only [Act.put, List.setIfInBounds_toArray, List.set_cons_zero, List.set_cons_succ, i64_w, i32_w]
             rfl
            refine pure_ (i := 6) (N := some 41) (v := ?_) (a' := ?_) pointTurnsMask13 rfl rfl (any_of HT_.out (by kernel_rfl)) (fun _ _ _ h => h) (Or.inl ⟨by rfl, ?_⟩) ?_ ?_
            rotate_left
            ·intro w'; go_simp
             with_reducible rfl
            rotate_left
            ·simp only [Act.put, List.setIfInBounds_toArray, List.set_cons_zero, List.set_cons_succ, i64_w, i32_w]
             rfl
            refine pure_ (i := 7) (N := some 42) (v := ?_) (a' := ?_) pointTurnsMask14 rfl rfl (any_of HT_.out (by kernel_rfl)) (fun _ _ _ h => h) (Or.inl ⟨by rfl, ?_⟩) ?_ ?_
            rotate_left
            ·intro w'; go_simp
             with_reducible rfl
            rotate_left
            ·simp only [Act.put, List.setIfInBounds_toArray, List.set_cons_zero, List.set_cons_succ, i64_w, i32_w]
             rfl
            refine pure_ (i := 8) (N := some 43) (v := ?_) (a' := ?_) pointTurnsMask15 rfl rfl (any_of HT_.out (by kernel_rfl)) (fun _ _ _ h => h) (Or.inl ⟨by rfl, ?_⟩) ?_ ?_
            rotate_left
            ·intro w'; go_simp
             with_reducible rfl
            rotate_left
            ·simp only [Act.put, List.setIfInBounds_toArray, List.set_cons_zero, List.set_cons_succ, i64_w, i32_w]
             rfl
            refine pure_ (i := 10) (N := some 45) (v := ?_) (a' := ?_) pointTurnsMask16 rfl rfl (any_of HT_.out (by kernel_rfl)) (fun _ _ _ h => h) (Or.inl ⟨by rfl, ?_⟩) ?_ ?_
            rotate_left
            ·intro w'; go_simp
             with_reducible rfl
            rotate_left
            ·simp only [Act.put, List.setIfInBounds_toArray, List.set_cons_zero, List.set_cons_succ, i64_w, i32_w]
             rfl
            refine pure_ (i := 11) (N := some 46) (v := ?_) (a' := ?_) pointTurnsMask17 rfl rfl (any_of HT_.out (by kernel_rfl)) (fun _ _ _ h => h) (Or.inl ⟨by rfl, ?_⟩) ?_ ?_
            rotate_left
            ·intro w'; go_simp
             with_reducible rfl
            rotate_left
            ·simp only [Act.put, List.setIfInBounds_toArray, List.set_cons_zero, List.set_cons_succ, i64_w, i32_w]
             rfl
            refine pure_ (i := 12) (N := some 47) (v := ?_) (a' := ?_) pointTurnsMask18 rfl rfl (any_of HT_.out (by kernel_rfl)) (fun _ _ _ h => h) (Or.inl ⟨by rfl, ?_⟩) ?_ ?_
            rotate_left
            ·intro w'; go_simp
             with_reducible rfl
            rotate_left
            ·simp only [Act.put, List.setIfInBounds_toArray, List.set_cons_zero, List.set_cons_succ, i64_w, i32_w]
             rfl
            refine take_ (i := 3) (N := some 38) (v := ?_) (a' := ?_) pointTurnsMask31 rfl rfl (take_ofW HT_.out HW_.out (by kernel_rfl)) (fun _ _ _ h => h) (Or.inl ⟨by rfl, ?_⟩) hHeld ?_ ?_
            rotate_left
            ·rintro w' ⟨s0, s1, s2, s3, s4, s5, s6, s7, s8, s9, s10, s11, s12, s13, s14, s15, s16, s17, s18, s19⟩
             go_simp
             with_reducible rfl
            rotate_left
            ·simp only [Act.put, List.setIfInBounds_toArray, List.set_cons_zero, List.set_cons_succ, i64_w, i32_w]
             rfl
            refine take_ (i := 9) (N := some 44) (v := ?_) (a' := ?_) pointTurnsMask34 rfl rfl (take_ofW HT_.out HW_.out (by kernel_rfl)) (fun _ _ _ h => h) (Or.inl ⟨by rfl, ?_⟩) hHeld ?_ ?_
            rotate_left
            ·rintro w' ⟨s0, s1, s2, s3, s4, s5, s6, s7, s8, s9, s10, s11, s12, s13, s14, s15, s16, s17, s18, s19⟩
             go_simp
             with_reducible rfl
            rotate_left
            ·simp only [Act.put, List.setIfInBounds_toArray, List.set_cons_zero, List.set_cons_succ, i64_w, i32_w]
             rfl
            refine one_ (i := 5) (N := some 40) pointTurnsMask41 rfl rfl (one_of HT_.out (by kernel_rfl)) (by decide) (fun K hK => ?_)
            refine goes_ Try.func14 (by kernel_rfl) rfl #[.agg #[.int .i64 ((rd_T26 l0 x3_1).f0), .int .i64 ((rd_T26 l0 x3_1).f1), .float .f64 ((rd_T26 l0 x3_1).f2.f0), .float .f64 ((rd_T26 l0 x3_1).f2.f1), .float .f64 ((rd_T26 l0 x3_1).f2.f2), .float .f64 ((rd_T26 l0 x3_1).f2.f3), .float .f64 ((rd_T26 l0 x3_1).f2.f4), .float .f64 ((rd_T26 l0 x3_1).f2.f5), .float .f64 ((rd_T26 l0 x3_1).f2.f6), .float .f64 ((rd_T26 l0 x3_1).f2.f7)], .int .i64 x4_3] (by rfl) rfl rfl (by (try simp only [List.map_toArray, List.map_cons, List.map_nil]); first | done | rfl | (simp only [List.length_drop, List.length_take]; rfl)) ?_
            with_reducible refine (arraslaw3_Ask_c.calls ((rd_T26 l0 x3_1).f0) ((rd_T26 l0 x3_1).f1) ((rd_T26 l0 x3_1).f2.f0) ((rd_T26 l0 x3_1).f2.f1) ((rd_T26 l0 x3_1).f2.f2) ((rd_T26 l0 x3_1).f2.f3) ((rd_T26 l0 x3_1).f2.f4) ((rd_T26 l0 x3_1).f2.f5) ((rd_T26 l0 x3_1).f2.f6) ((rd_T26 l0 x3_1).f2.f7) x4_3 t229 _ A8.out).mono ?_
            rintro e w16 ⟨rfl, hb⟩
            refine ⟨_, rfl, ?_⟩
            have n0_ := Aside0.mk (below_step (by repeat (first | (with_reducible first | exact HB.out | apply below_alloc | apply pw_below_drewN | apply below_drew1) | exact HB.out)) hb); clear HB; have HB := n0_; clear n0_
            (try clear hb)
            (try clear hb2)
            (try clear hk)
            (try clear hi)
            refine hK.out _ _ ⟨((HB.out.cell (World.block_lt_of_cell? w _ hw228_0)).trans hw228_0), ((HB.out.cell (World.block_lt_of_cell? w _ hw228_1)).trans hw228_1), ((HB.out.cell (World.block_lt_of_cell? w _ hw228_2)).trans hw228_2), ((HB.out.cell (World.block_lt_of_cell? w _ hw228_3)).trans hw228_3), ((HB.out.cell (World.block_lt_of_cell? w _ hw228_4)).trans hw228_4), ((HB.out.cell (World.block_lt_of_cell? w _ hw228_5)).trans hw228_5), ((HB.out.cell (World.block_lt_of_cell? w _ hw228_6)).trans hw228_6), ((HB.out.cell (World.block_lt_of_cell? w _ hw228_7)).trans hw228_7), ((HB.out.cell (World.block_lt_of_cell? w _ hw228_8)).trans hw228_8), ((HB.out.cell (World.block_lt_of_cell? w _ hw228_9)).trans hw228_9), ((HB.out.cell (World.block_lt_of_cell? w _ hw230_0)).trans hw230_0), ((HB.out.cell (World.block_lt_of_cell? w _ hw230_1)).trans hw230_1), ((HB.out.cell (World.block_lt_of_cell? w _ hw230_2)).trans hw230_2), ((HB.out.cell (World.block_lt_of_cell? w _ hw230_3)).trans hw230_3), ((HB.out.cell (World.block_lt_of_cell? w _ hw230_4)).trans hw230_4), ((HB.out.cell (World.block_lt_of_cell? w _ hw230_5)).trans hw230_5), ((HB.out.cell (World.block_lt_of_cell? w _ hw230_6)).trans hw230_6), ((HB.out.cell (World.block_lt_of_cell? w _ hw230_7)).trans hw230_7), ((HB.out.cell (World.block_lt_of_cell? w _ hw230_8)).trans hw230_8), ((HB.out.cell (World.block_lt_of_cell? w _ hw230_9)).trans hw230_9)⟩ (fun hHeld => ?_)
            clear hK K
            refine norm_ (a' := ?_) ?_ ?_
            rotate_left
            ·show Act.put _ (some 40) _ = _
             simp only [Act.put, List.setIfInBounds_toArray, List.set_cons_zero, List.set_cons_succ, i64_w, i32_w]
             rfl
            refine one_ (i := 13) (N := some 48) pointTurnsMask44 rfl rfl (one_of HT_.out (by kernel_rfl)) (by decide) (fun K hK => ?_)
            refine goes_ Try.func14 (by kernel_rfl) rfl #[.agg #[.int .i64 ((rd_T26 l0 x3_1).f0), .int .i64 ((rd_T26 l0 x3_1).f1), .float .f64 ((rd_T26 l0 x3_1).f2.f0), .float .f64 ((rd_T26 l0 x3_1).f2.f1), .float .f64 ((rd_T26 l0 x3_1).f2.f2), .float .f64 ((rd_T26 l0 x3_1).f2.f3), .float .f64 ((rd_T26 l0 x3_1).f2.f4), .float .f64 ((rd_T26 l0 x3_1).f2.f5), .float .f64 ((rd_T26 l0 x3_1).f2.f6), .float .f64 ((rd_T26 l0 x3_1).f2.f7)], .int .i64 (Int.tmod (wrap64 (x4_3 + 1)) 4)] (by rfl) rfl rfl (by (try simp only [List.map_toArray, List.map_cons, List.map_nil]); first | done | rfl | (simp only [List.length_drop, List.length_take]; rfl)) ?_
            with_reducible refine (arraslaw3_Ask_c.calls ((rd_T26 l0 x3_1).f0) ((rd_T26 l0 x3_1).f1) ((rd_T26 l0 x3_1).f2.f0) ((rd_T26 l0 x3_1).f2.f1) ((rd_T26 l0 x3_1).f2.f2) ((rd_T26 l0 x3_1).f2.f3) ((rd_T26 l0 x3_1).f2.f4) ((rd_T26 l0 x3_1).f2.f5) ((rd_T26 l0 x3_1).f2.f6) ((rd_T26 l0 x3_1).f2.f7) (Int.tmod (wrap64 (x4_3 + 1)) 4) t231 _ A9.out).mono ?_
            rintro e w17 ⟨rfl, hb⟩
            refine ⟨_, rfl, ?_⟩
            have n0_ := Aside0.mk (below_step (by repeat (first | (with_reducible first | exact HB.out | apply below_alloc | apply pw_below_drewN | apply below_drew1) | exact HB.out)) hb); clear HB; have HB := n0_; clear n0_
            (try clear hb)
            (try clear hb2)
            (try clear hk)
            (try clear hi)
            refine hK.out _ _ ⟨((HB.out.cell (World.block_lt_of_cell? w _ hw228_0)).trans hw228_0), ((HB.out.cell (World.block_lt_of_cell? w _ hw228_1)).trans hw228_1), ((HB.out.cell (World.block_lt_of_cell? w _ hw228_2)).trans hw228_2), ((HB.out.cell (World.block_lt_of_cell? w _ hw228_3)).trans hw228_3), ((HB.out.cell (World.block_lt_of_cell? w _ hw228_4)).trans hw228_4), ((HB.out.cell (World.block_lt_of_cell? w _ hw228_5)).trans hw228_5), ((HB.out.cell (World.block_lt_of_cell? w _ hw228_6)).trans hw228_6), ((HB.out.cell (World.block_lt_of_cell? w _ hw228_7)).trans hw228_7), ((HB.out.cell (World.block_lt_of_cell? w _ hw228_8)).trans hw228_8), ((HB.out.cell (World.block_lt_of_cell? w _ hw228_9)).trans hw228_9), ((HB.out.cell (World.block_lt_of_cell? w _ hw230_0)).trans hw230_0), ((HB.out.cell (World.block_lt_of_cell? w _ hw230_1)).trans hw230_1), ((HB.out.cell (World.block_lt_of_cell? w _ hw230_2)).trans hw230_2), ((HB.out.cell (World.block_lt_of_cell? w _ hw230_3)).trans hw230_3), ((HB.out.cell (World.block_lt_of_cell? w _ hw230_4)).trans hw230_4), ((HB.out.cell (World.block_lt_of_cell? w _ hw230_5)).trans hw230_5), ((HB.out.cell (World.block_lt_of_cell? w _ hw230_6)).trans hw230_6), ((HB.out.cell (World.block_lt_of_cell? w _ hw230_7)).trans hw230_7), ((HB.out.cell (World.block_lt_of_cell? w _ hw230_8)).trans hw230_8), ((HB.out.cell (World.block_lt_of_cell? w _ hw230_9)).trans hw230_9)⟩ (fun hHeld => ?_)
            clear hK K
            refine norm_ (a' := ?_) ?_ ?_
            rotate_left
            ·show Act.put _ (some 48) _ = _
             simp only [Act.put, List.setIfInBounds_toArray, List.set_cons_zero, List.set_cons_succ, i64_w, i32_w]
             rfl
            refine pure_ (i := 14) (N := some 5) (v := ?_) (a' := ?_) pointTurnsMask47 rfl rfl (any_of HT_.out (by kernel_rfl)) (fun _ _ _ h => h) (Or.inl ⟨by rfl, ?_⟩) ?_ ?_
            rotate_left
            ·intro w'; go_simp
             with_reducible rfl
            rotate_left
            ·simp only [Act.put, List.setIfInBounds_toArray, List.set_cons_zero, List.set_cons_succ, i64_w, i32_w]
             rfl
            refine pure_ (i := 15) (N := some 6) (v := ?_) (a' := ?_) pointTurnsMask55 rfl rfl (any_of HT_.out (by kernel_rfl)) (fun _ _ _ h => h) (Or.inl ⟨by rfl, ?_⟩) ?_ ?_
            rotate_left
            ·intro w'; go_simp
             with_reducible rfl
            rotate_left
            ·simp only [Act.put, List.setIfInBounds_toArray, List.set_cons_zero, List.set_cons_succ, i64_w, i32_w]
             rfl
            refine done_ (done_of HT_.out (by kernel_rfl)) ?_
            go_upto_region 11 with (first | ((with_reducible refine gate_callee (f := 15) rfl ?_); refine goesL_ (some 51) rfl rfl Try.func15 (by kernel_rfl) rfl #[.complex .f64 t229.1 t229.2] rfl (by (try simp only [List.map_toArray, List.map_cons, List.map_nil]); first | done | rfl | (simp only [List.length_drop, List.length_take]; rfl)) ?_; (with_reducible refine (point_Turn.calls k3 t229 t232 t233 _ A10.out).mono ?_); rintro e w18 ⟨rfl, hb⟩; refine ⟨_, rfl, ?_⟩; have n0_ := Aside0.mk (below_step (by repeat (first | (with_reducible first | exact HB.out | apply below_alloc | apply pw_below_drewN | apply below_drew1) | exact HB.out)) hb); clear HB; have HB := n0_; clear n0_; (try clear hb); (try clear hb2); (try clear hk); (try clear hi)) | ((with_reducible refine gate_callee (f := 17) rfl ?_); refine goesL_ (some 55) rfl rfl Try.func17 (by kernel_rfl) rfl #[.int .i64 t233] rfl (by (try simp only [List.map_toArray, List.map_cons, List.map_nil]); first | done | rfl | (simp only [List.length_drop, List.length_take]; rfl)) ?_; (with_reducible refine (arraslaw3_num.calls t233 t234 _ A11.out).mono ?_); rintro e w' ⟨rfl, ⟨nd, rfl⟩⟩; refine ⟨_, rfl, ?_⟩) | ((with_reducible refine gate_callee (f := 15) rfl ?_); refine goesL_ (some 59) rfl rfl Try.func15 (by kernel_rfl) rfl #[.complex .f64 t232.1 t232.2] rfl (by (try simp only [List.map_toArray, List.map_cons, List.map_nil]); first | done | rfl | (simp only [List.length_drop, List.length_take]; rfl)) ?_; (with_reducible refine (point_Turn.calls k3 t232 t235 t236 _ A13.out).mono ?_); rintro e w19 ⟨rfl, hb⟩; refine ⟨_, rfl, ?_⟩; have n0_ := Aside0.mk (below_step (by repeat (first | (with_reducible first | exact HB.out | apply below_alloc | apply pw_below_drewN | apply below_drew1) | exact HB.out)) hb); clear HB; have HB := n0_; clear n0_; (try clear hb); (try clear hb2); (try clear hk); (try clear hi)))
            (try simp only [Act.put, List.setIfInBounds_toArray, List.set_cons_zero, List.set_cons_succ])
            go_cut [83] (fun v83 wc => ∃ (kq : Nat) (x83_13 : Bool), v83 = .bool x83_13 ∧ Aside0 (arraslaw3_PointTurns.j3 kq l0 x3_1 x4_3 t229 t231 x83_13 = some r) ∧ Aside0 (kq ≤ k3) ∧ Aside0 (Below w.heap.size w wc))
            case first => as_aux_lemma =>
             have H := HC14.out
             clear HC14
             replace H := Option.bind_eq_some_iff.mp H
             obtain ⟨t237, A200, H⟩ := H
             replace H : (if t237 = 0 then (if ((feq t235.1 t229.1 && feq t235.2 t229.2) = true) then (if ((feq t232.1 t229.2) = true) then (arraslaw3_PointTurns.j3 k3 l0 x3_1 x4_3 t229 t231 (!feq t232.2 t229.1)) else (arraslaw3_PointTurns.j3 k3 l0 x3_1 x4_3 t229 t231 true)) else (arraslaw3_PointTurns.j3 k3 l0 x3_1 x4_3 t229 t231 true)) else (arraslaw3_PointTurns.j3 k3 l0 x3_1 x4_3 t229 t231 true)) = some r := H
             have A20 := Aside0.mk A200; clear A200
             by_cases c21 : t237 = 0
             ·rw [if_pos c21] at H
              have c21b0 : (t237 == 0) = true := beq_iff_eq.mpr c21
              have c21b1 : (t237 != 0) = false := bne_eq_false_iff_eq.mpr c21
              clear c21
              (first | rw [c21b0] | (simp only [i64_w, i32_w]; rw [c21b0]) | skip)
              by_cases c22 : ((feq t235.1 t229.1 && feq t235.2 t229.2) = true)
              ·rw [if_pos c22] at H
               have c22b0 : (feq t235.1 t229.1 && feq t235.2 t229.2) = true := c22
               clear c22
               by_cases c23 : ((feq t232.1 t229.2) = true)
               ·rw [if_pos c23] at H
                have c23b0 : (feq t232.1 t229.2) = true := c23
                clear c23
                have H' := Aside0.mk H
                clear H
                go_wp2_with (first | ((with_reducible refine gate_callee (f := 17) rfl ?_); refine goesL_ (some 63) rfl rfl Try.func17 (by kernel_rfl) rfl #[.int .i64 t236] rfl (by (try simp only [List.map_toArray, List.map_cons, List.map_nil]); first | done | rfl | (simp only [List.length_drop, List.length_take]; rfl)) ?_; (with_reducible refine (arraslaw3_num.calls t236 t237 _ A20.out).mono ?_); rintro e w' ⟨rfl, ⟨nd, rfl⟩⟩; refine ⟨_, rfl, ?_⟩))
                go_meet
                case rel => exact ⟨_, ((!feq t232.2 t229.1)), (by first | rfl | (simp; done) | (simp [*]; done)), H', ⟨by have := HK1.out; have := HJ1.out; have := HK3.out; first | omega | exact Nat.le_refl _⟩, ⟨by repeat (first | (with_reducible first | exact HB.out | apply below_alloc | apply pw_below_drewN | apply below_drew1) | exact HB.out)⟩⟩
               ·rw [if_neg c23] at H
                have c23b0 : (feq t232.1 t229.2) = false := by simpa using c23
                clear c23
                have H' := Aside0.mk H
                clear H
                go_wp2_with (first | ((with_reducible refine gate_callee (f := 17) rfl ?_); refine goesL_ (some 63) rfl rfl Try.func17 (by kernel_rfl) rfl #[.int .i64 t236] rfl (by (try simp only [List.map_toArray, List.map_cons, List.map_nil]); first | done | rfl | (simp only [List.length_drop, List.length_take]; rfl)) ?_; (with_reducible refine (arraslaw3_num.calls t236 t237 _ A20.out).mono ?_); rintro e w' ⟨rfl, ⟨nd, rfl⟩⟩; refine ⟨_, rfl, ?_⟩))
                go_meet
                case rel => exact ⟨_, (true), (by first | rfl | (simp; done) | (simp [*]; done)), H', ⟨by have := HK1.out; have := HJ1.out; have := HK3.out; first | omega | exact Nat.le_refl _⟩, ⟨by repeat (first | (with_reducible first | exact HB.out | apply below_alloc | apply pw_below_drewN | apply below_drew1) | exact HB.out)⟩⟩
              ·rw [if_neg c22] at H
               have c22b0 : (feq t235.1 t229.1 && feq t235.2 t229.2) = false := by simpa using c22
               clear c22
               have H' := Aside0.mk H
               clear H
               go_wp2_with (first | ((with_reducible refine gate_callee (f := 17) rfl ?_); refine goesL_ (some 63) rfl rfl Try.func17 (by kernel_rfl) rfl #[.int .i64 t236] rfl (by (try simp only [List.map_toArray, List.map_cons, List.map_nil]); first | done | rfl | (simp only [List.length_drop, List.length_take]; rfl)) ?_; (with_reducible refine (arraslaw3_num.calls t236 t237 _ A20.out).mono ?_); rintro e w' ⟨rfl, ⟨nd, rfl⟩⟩; refine ⟨_, rfl, ?_⟩))
               go_meet
               case rel => exact ⟨_, (true), (by first | rfl | (simp; done) | (simp [*]; done)), H', ⟨by have := HK1.out; have := HJ1.out; have := HK3.out; first | omega | exact Nat.le_refl _⟩, ⟨by repeat (first | (with_reducible first | exact HB.out | apply below_alloc | apply pw_below_drewN | apply below_drew1) | exact HB.out)⟩⟩
             ·rw [if_neg c21] at H
              have c21b0 : (t237 == 0) = false := beq_eq_false_iff_ne.mpr c21
              have c21b1 : (t237 != 0) = true := bne_iff_ne.mpr c21
              (first | rw [c21b0] | (simp only [i64_w, i32_w]; rw [c21b0]) | skip)
              have H' := Aside0.mk H
              clear H
              go_wp2_with (first | ((with_reducible refine gate_callee (f := 17) rfl ?_); refine goesL_ (some 63) rfl rfl Try.func17 (by kernel_rfl) rfl #[.int .i64 t236] rfl (by (try simp only [List.map_toArray, List.map_cons, List.map_nil]); first | done | rfl | (simp only [List.length_drop, List.length_take]; rfl)) ?_; (with_reducible refine (arraslaw3_num.calls t236 t237 _ A20.out).mono ?_); rintro e w' ⟨rfl, ⟨nd, rfl⟩⟩; refine ⟨_, rfl, ?_⟩))
              go_meet
              case rel => exact ⟨_, (true), (by first | rfl | (simp; done) | (simp [*]; done)), H', ⟨by have := HK1.out; have := HJ1.out; have := HK3.out; first | omega | exact Nat.le_refl _⟩, ⟨by repeat (first | (with_reducible first | exact HB.out | apply below_alloc | apply pw_below_drewN | apply below_drew1) | exact HB.out)⟩⟩
            case rest => as_aux_lemma =>
             clear HC14
             try clear c1
             try clear c2
             try clear p2
             try clear q2
             try clear hx2
             try clear c3
             try clear c3b0
             try clear c4
             try clear c5
             try clear c5b0
             try clear c6
             try clear c6b0
             try clear p6
             try clear c7
             try clear c7b0
             try clear c12
             try clear c12b0
             try clear c12b1
             try clear c14
             try clear c15
             try clear c17
             try clear c21
             try clear c21b0
             try clear c21b1
             try clear c22
             try clear c22b0
             try clear p22
             try clear q22
             try clear hx22
             try clear c23
             try clear c23b0
             try clear p23
             try clear q23
             try clear hx23
             try clear hx228_0
             try clear hx228_1
             try clear hx228_2
             try clear hx228_3
             try clear hx228_4
             try clear hx228_5
             try clear hx228_6
             try clear hx228_7
             try clear hx228_8
             try clear hx228_9
             try clear hx230_0
             try clear hx230_1
             try clear hx230_2
             try clear hx230_3
             try clear hx230_4
             try clear hx230_5
             try clear hx230_6
             try clear hx230_7
             try clear hx230_8
             try clear hx230_9
             try clear p2
             try clear p228
             try clear p230
             try clear q228
             try clear q230
             obtain ⟨kq, x83_13, rfl, HA, HJ13, HB⟩ := hcut
             cases kq with
             | zero => exact absurd HA.out (by simp [arraslaw3_PointTurns.j3])
             | succ kj13 =>
              have H := HA.out
              clear HA
              simp only [arraslaw3_PointTurns.j3] at H
              by_cases c24 : x83_13 = true
              ·subst c24
               have H1 : (some false) = some r := by rw [if_pos rfl] at H; exact H
               clear H; have H := H1; clear H1
               obtain rfl := Option.some.inj H
               go_wp2
               go_ret
               exact ⟨by first | rfl | (simp [errW_none, errW_some] <;> rfl) | (simp [*, errW_none, errW_some] <;> rfl), by repeat (first | (with_reducible first | exact HB.out | apply below_alloc | apply pw_below_drewN | apply below_drew1) | exact HB.out)⟩
              ·replace c24 := Bool.eq_false_iff.mpr c24
               subst c24
               have H1 : ((point_Add.f kj13 t229 t231).bind fun bt238 => ((point_Add.f kj13 t231 t229).bind fun bt240 => ((arraslaw3_num.f bt238.2).bind fun t242 => ((arraslaw3_num.f bt240.2).bind fun t243 => (if t242 = t243 then (arraslaw3_PointTurns.j4 kj13 l0 x3_1 x4_3 (!(feq bt238.1.1 bt240.1.1 && feq bt238.1.2 bt240.1.2))) else (arraslaw3_PointTurns.j4 kj13 l0 x3_1 x4_3 true)))))) = some r := by rw [if_neg (show ¬ (false = true) by decide)] at H; exact H
               clear H; have H := H1; clear H1
               replace H := Option.bind_eq_some_iff.mp H
               obtain ⟨⟨t238, t239⟩, A250, H⟩ := H
               replace H : ((point_Add.f kj13 t231 t229).bind fun bt240 => ((arraslaw3_num.f t239).bind fun t242 => ((arraslaw3_num.f bt240.2).bind fun t243 => (if t242 = t243 then (arraslaw3_PointTurns.j4 kj13 l0 x3_1 x4_3 (!(feq t238.1 bt240.1.1 && feq t238.2 bt240.1.2))) else (arraslaw3_PointTurns.j4 kj13 l0 x3_1 x4_3 true))))) = some r := H
               have A25 := Aside0.mk A250; clear A250
               replace H := Option.bind_eq_some_iff.mp H
               obtain ⟨⟨t240, t241⟩, A260, H⟩ := H
               replace H : ((arraslaw3_num.f t239).bind fun t242 => ((arraslaw3_num.f t241).bind fun t243 => (if t242 = t243 then (arraslaw3_PointTurns.j4 kj13 l0 x3_1 x4_3 (!(feq t238.1 t240.1 && feq t238.2 t240.2))) else (arraslaw3_PointTurns.j4 kj13 l0 x3_1 x4_3 true)))) = some r := H
               have A26 := Aside0.mk A260; clear A260; have HC27 := Aside0.mk H; clear H
               go_upto_region 15 with (first | ((with_reducible refine gate_callee (f := 21) rfl ?_); refine goesL_ (some 87) rfl rfl Try.func21 (by kernel_rfl) rfl #[.complex .f64 t229.1 t229.2, .complex .f64 t231.1 t231.2] rfl (by (try simp only [List.map_toArray, List.map_cons, List.map_nil]); first | done | rfl | (simp only [List.length_drop, List.length_take]; rfl)) ?_; (with_reducible refine (point_Add.calls kj13 t229 t231 t238 t239 _ A25.out).mono ?_); rintro e w28 ⟨rfl, hb⟩; refine ⟨_, rfl, ?_⟩; have n0_ := Aside0.mk (below_step (by repeat (first | (with_reducible first | exact HB.out | apply below_alloc | apply pw_below_drewN | apply below_drew1) | exact HB.out)) hb); clear HB; have HB := n0_; clear n0_; (try clear hb); (try clear hb2); (try clear hk); (try clear hi)) | ((with_reducible refine gate_callee (f := 21) rfl ?_); refine goesL_ (some 93) rfl rfl Try.func21 (by kernel_rfl) rfl #[.complex .f64 t231.1 t231.2, .complex .f64 t229.1 t229.2] rfl (by (try simp only [List.map_toArray, List.map_cons, List.map_nil]); first | done | rfl | (simp only [List.length_drop, List.length_take]; rfl)) ?_; (with_reducible refine (point_Add.calls kj13 t231 t229 t240 t241 _ A26.out).mono ?_); rintro e w29 ⟨rfl, hb⟩; refine ⟨_, rfl, ?_⟩; have n0_ := Aside0.mk (below_step (by repeat (first | (with_reducible first | exact HB.out | apply below_alloc | apply pw_below_drewN | apply below_drew1) | exact HB.out)) hb); clear HB; have HB := n0_; clear n0_; (try clear hb); (try clear hb2); (try clear hk); (try clear hi)))
               (try simp only [Act.put, List.setIfInBounds_toArray, List.set_cons_zero, List.set_cons_succ])
               go_cut [105] (fun v105 wc => ∃ (kq : Nat) (x105_26 : Bool), v105 = .bool x105_26 ∧ Aside0 (arraslaw3_PointTurns.j4 kq l0 x3_1 x4_3 x105_26 = some r) ∧ Aside0 (kq ≤ kj13) ∧ Aside0 (Below w.heap.size w wc))
               case first => as_aux_lemma =>
                have H := HC27.out
                clear HC27
                replace H := Option.bind_eq_some_iff.mp H
                obtain ⟨t242, A300, H⟩ := H
                replace H : ((arraslaw3_num.f t241).bind fun t243 => (if t242 = t243 then (arraslaw3_PointTurns.j4 kj13 l0 x3_1 x4_3 (!(feq t238.1 t240.1 && feq t238.2 t240.2))) else (arraslaw3_PointTurns.j4 kj13 l0 x3_1 x4_3 true))) = some r := H
                have A30 := Aside0.mk A300; clear A300
                replace H := Option.bind_eq_some_iff.mp H
                obtain ⟨t243, A310, H⟩ := H
                replace H : (if t242 = t243 then (arraslaw3_PointTurns.j4 kj13 l0 x3_1 x4_3 (!(feq t238.1 t240.1 && feq t238.2 t240.2))) else (arraslaw3_PointTurns.j4 kj13 l0 x3_1 x4_3 true)) = some r := H
                have A31 := Aside0.mk A310; clear A310
                by_cases c32 : t242 = t243
                ·rw [if_pos c32] at H
                 have c32b0 : (t242 == t243) = true := beq_iff_eq.mpr c32
                 have c32b1 : (t242 != t243) = false := bne_eq_false_iff_eq.mpr c32
                 clear c32
                 (first | rw [c32b0] | (simp only [i64_w, i32_w]; rw [c32b0]) | skip)
                 have H' := Aside0.mk H
                 clear H
                 go_wp2_with (first | ((with_reducible refine gate_callee (f := 17) rfl ?_); refine goesL_ (some 97) rfl rfl Try.func17 (by kernel_rfl) rfl #[.int .i64 t239] rfl (by (try simp only [List.map_toArray, List.map_cons, List.map_nil]); first | done | rfl | (simp only [List.length_drop, List.length_take]; rfl)) ?_; (with_reducible refine (arraslaw3_num.calls t239 t242 _ A30.out).mono ?_); rintro e w' ⟨rfl, ⟨nd, rfl⟩⟩; refine ⟨_, rfl, ?_⟩) | ((with_reducible refine gate_callee (f := 17) rfl ?_); refine goesL_ (some 99) rfl rfl Try.func17 (by kernel_rfl) rfl #[.int .i64 t241] rfl (by (try simp only [List.map_toArray, List.map_cons, List.map_nil]); first | done | rfl | (simp only [List.length_drop, List.length_take]; rfl)) ?_; (with_reducible refine (arraslaw3_num.calls t241 t243 _ A31.out).mono ?_); rintro e w' ⟨rfl, ⟨nd, rfl⟩⟩; refine ⟨_, rfl, ?_⟩))
                 go_meet
                 case rel => exact ⟨_, ((!(feq t238.1 t240.1 && feq t238.2 t240.2))), (by first | rfl | (simp; done) | (simp [*]; done)), H', ⟨by have := HK1.out; have := HJ1.out; have := HK3.out; have := HJ13.out; first | omega | exact Nat.le_refl _⟩, ⟨by repeat (first | (with_reducible first | exact HB.out | apply below_alloc | apply pw_below_drewN | apply below_drew1) | exact HB.out)⟩⟩
                ·rw [if_neg c32] at H
                 have c32b0 : (t242 == t243) = false := beq_eq_false_iff_ne.mpr c32
                 have c32b1 : (t242 != t243) = true := bne_iff_ne.mpr c32
                 (first | rw [c32b0] | (simp only [i64_w, i32_w]; rw [c32b0]) | skip)
                 have H' := Aside0.mk H
                 clear H
                 go_wp2_with (first | ((with_reducible refine gate_callee (f := 17) rfl ?_); refine goesL_ (some 97) rfl rfl Try.func17 (by kernel_rfl) rfl #[.int .i64 t239] rfl (by (try simp only [List.map_toArray, List.map_cons, List.map_nil]); first | done | rfl | (simp only [List.length_drop, List.length_take]; rfl)) ?_; (with_reducible refine (arraslaw3_num.calls t239 t242 _ A30.out).mono ?_); rintro e w' ⟨rfl, ⟨nd, rfl⟩⟩; refine ⟨_, rfl, ?_⟩) | ((with_reducible refine gate_callee (f := 17) rfl ?_); refine goesL_ (some 99) rfl rfl Try.func17 (by kernel_rfl) rfl #[.int .i64 t241] rfl (by (try simp only [List.map_toArray, List.map_cons, List.map_nil]); first | done | rfl | (simp only [List.length_drop, List.length_take]; rfl)) ?_; (with_reducible refine (arraslaw3_num.calls t241 t243 _ A31.out).mono ?_); rintro e w' ⟨rfl, ⟨nd, rfl⟩⟩; refine ⟨_, rfl, ?_⟩))
                 go_meet
                 case rel => exact ⟨_, (true), (by first | rfl | (simp; done) | (simp [*]; done)), H', ⟨by have := HK1.out; have := HJ1.out; have := HK3.out; have := HJ13.out; first | omega | exact Nat.le_refl _⟩, ⟨by repeat (first | (with_reducible first | exact HB.out | apply below_alloc | apply pw_below_drewN | apply below_drew1) | exact HB.out)⟩⟩
               case rest => as_aux_lemma =>
                clear HC27
                try clear c1
                try clear c2
                try clear p2
                try clear q2
                try clear hx2
                try clear c3
                try clear c3b0
                try clear c4
                try clear c5
                try clear c5b0
                try clear c6
                try clear c6b0
                try clear p6
                try clear c7
                try clear c7b0
                try clear c12
                try clear c12b0
                try clear c12b1
                try clear c14
                try clear c15
                try clear c17
                try clear c21
                try clear c21b0
                try clear c21b1
                try clear c22
                try clear c22b0
                try clear p22
                try clear q22
                try clear hx22
                try clear c23
                try clear c23b0
                try clear p23
                try clear q23
                try clear hx23
                try clear c24
                try clear c32
                try clear c32b0
                try clear c32b1
                try clear hx228_0
                try clear hx228_1
                try clear hx228_2
                try clear hx228_3
                try clear hx228_4
                try clear hx228_5
                try clear hx228_6
                try clear hx228_7
                try clear hx228_8
                try clear hx228_9
                try clear hx230_0
                try clear hx230_1
                try clear hx230_2
                try clear hx230_3
                try clear hx230_4
                try clear hx230_5
                try clear hx230_6
                try clear hx230_7
                try clear hx230_8
                try clear hx230_9
                try clear p2
                try clear p22
                try clear p228
                try clear p23
                try clear p230
                try clear p6
                try clear q2
                try clear q22
                try clear q228
                try clear q23
                try clear q230
                obtain ⟨kq, x105_26, rfl, HA, HJ26, HB⟩ := hcut
                cases kq with
                | zero => exact absurd HA.out (by simp [arraslaw3_PointTurns.j4])
                | succ kj26 =>
                 have H := HA.out
                 clear HA
                 simp only [arraslaw3_PointTurns.j4] at H
                 by_cases c33 : x105_26 = true
                 ·subst c33
                  have H1 : (some false) = some r := by rw [if_pos rfl] at H; exact H
                  clear H; have H := H1; clear H1
                  obtain rfl := Option.some.inj H
                  go_wp2
                  go_ret
                  exact ⟨by first | rfl | (simp [errW_none, errW_some] <;> rfl) | (simp [*, errW_none, errW_some] <;> rfl), by repeat (first | (with_reducible first | exact HB.out | apply below_alloc | apply pw_below_drewN | apply below_drew1) | exact HB.out)⟩
                 ·replace c33 := Bool.eq_false_iff.mpr c33
                  subst c33
                  have H1 : (arraslaw3_PointTurns.l1 kj26 l0 x3_1 (wrap64 (x4_3 + 1))) = some r := by rw [if_neg (show ¬ (false = true) by decide)] at H; exact H
                  clear H; have H := H1; clear H1
                  have H' := Aside0.mk H
                  clear H
                  go_wp2
                  go_roundg kj26
                  case measure => have := HK1.out; have := HJ1.out; have := HK3.out; have := HJ13.out; have := HJ26.out; omega
                  case rel => exact ⟨(wrap64 (x4_3 + 1)), (by first | rfl | (simp; done) | (simp [*]; done)), H', ⟨by have := HK1.out; have := HJ1.out; have := HK3.out; have := HJ13.out; have := HJ26.out; omega⟩, ⟨by repeat (first | (with_reducible first | exact HB.out | apply below_alloc | apply pw_below_drewN | apply below_drew1) | exact HB.out)⟩⟩
           ·rw [if_neg c12] at H
            have c12b0 : (t234 == 0) = false := beq_eq_false_iff_ne.mpr c12
            have c12b1 : (t234 != 0) = true := bne_iff_ne.mpr c12
            have H' := Aside0.mk H
            clear H
            try go_wp2
            have n0_ := Aside0.mk (below_drew1 HB.out); clear HB; have HB := n0_; clear n0_; have p228 : 0 ≤ (x3_1 : Int) := of_decide_eq_true (by first | (with_reducible assumption) | assumption); have q228 : x3_1 < (l0.length : Int) := of_decide_eq_true (by first | (with_reducible assumption) | assumption)
            obtain ⟨ad228, e228, hx228_0, hx228_1, hx228_2, hx228_3, hx228_4, hx228_5, hx228_6, hx228_7, hx228_8, hx228_9⟩ := at_T26 HR0.out x3_1 p228 q228
            have hw228_9 := hx228_9; have hw228_8 := hx228_8; have hw228_7 := hx228_7; have hw228_6 := hx228_6; have hw228_5 := hx228_5; have hw228_4 := hx228_4; have hw228_3 := hx228_3; have hw228_2 := hx228_2; have hw228_1 := hx228_1; have hw228_0 := hx228_0; cases e228
            replace hx228_0 := (HB.out.cell (World.block_lt_of_cell? w _ hx228_0)).trans hx228_0
            replace hx228_1 := (HB.out.cell (World.block_lt_of_cell? w _ hx228_1)).trans hx228_1
            replace hx228_2 := (HB.out.cell (World.block_lt_of_cell? w _ hx228_2)).trans hx228_2
            replace hx228_3 := (HB.out.cell (World.block_lt_of_cell? w _ hx228_3)).trans hx228_3
            replace hx228_4 := (HB.out.cell (World.block_lt_of_cell? w _ hx228_4)).trans hx228_4
            replace hx228_5 := (HB.out.cell (World.block_lt_of_cell? w _ hx228_5)).trans hx228_5
            replace hx228_6 := (HB.out.cell (World.block_lt_of_cell? w _ hx228_6)).trans hx228_6
            replace hx228_7 := (HB.out.cell (World.block_lt_of_cell? w _ hx228_7)).trans hx228_7
            replace hx228_8 := (HB.out.cell (World.block_lt_of_cell? w _ hx228_8)).trans hx228_8
            replace hx228_9 := (HB.out.cell (World.block_lt_of_cell? w _ hx228_9)).trans hx228_9
            replace p228 := eq_true p228; replace q228 := eq_true q228; have p230 : 0 ≤ (x3_1 : Int) := of_decide_eq_true (by first | (with_reducible assumption) | assumption); have q230 : x3_1 < (l0.length : Int) := of_decide_eq_true (by first | (with_reducible assumption) | assumption)
            obtain ⟨ad230, e230, hx230_0, hx230_1, hx230_2, hx230_3, hx230_4, hx230_5, hx230_6, hx230_7, hx230_8, hx230_9⟩ := at_T26 HR0.out x3_1 p230 q230
            have hw230_9 := hx230_9; have hw230_8 := hx230_8; have hw230_7 := hx230_7; have hw230_6 := hx230_6; have hw230_5 := hx230_5; have hw230_4 := hx230_4; have hw230_3 := hx230_3; have hw230_2 := hx230_2; have hw230_1 := hx230_1; have hw230_0 := hx230_0; obtain rfl : ad228 = ad230 := (by injection e230)
            replace hx230_0 := (HB.out.cell (World.block_lt_of_cell? w _ hx230_0)).trans hx230_0
            replace hx230_1 := (HB.out.cell (World.block_lt_of_cell? w _ hx230_1)).trans hx230_1
            replace hx230_2 := (HB.out.cell (World.block_lt_of_cell? w _ hx230_2)).trans hx230_2
            replace hx230_3 := (HB.out.cell (World.block_lt_of_cell? w _ hx230_3)).trans hx230_3
            replace hx230_4 := (HB.out.cell (World.block_lt_of_cell? w _ hx230_4)).trans hx230_4
            replace hx230_5 := (HB.out.cell (World.block_lt_of_cell? w _ hx230_5)).trans hx230_5
            replace hx230_6 := (HB.out.cell (World.block_lt_of_cell? w _ hx230_6)).trans hx230_6
            replace hx230_7 := (HB.out.cell (World.block_lt_of_cell? w _ hx230_7)).trans hx230_7
            replace hx230_8 := (HB.out.cell (World.block_lt_of_cell? w _ hx230_8)).trans hx230_8
            replace hx230_9 := (HB.out.cell (World.block_lt_of_cell? w _ hx230_9)).trans hx230_9
            replace p230 := eq_true p230; replace q230 := eq_true q230
            refine start_ (n := 16) (S := fun w' => w'.cell? (ad228.add ((x3_1).toNat * 10)) = some (.int .i64 ((rd_T26 l0 x3_1).f0)) ∧ w'.cell? ⟨(ad228.add ((x3_1).toNat * 10)).block, (ad228.add ((x3_1).toNat * 10)).off + 1, none⟩ = some (.int .i64 ((rd_T26 l0 x3_1).f1)) ∧ w'.cell? ⟨(ad228.add ((x3_1).toNat * 10)).block, (ad228.add ((x3_1).toNat * 10)).off + 2, none⟩ = some (.float .f64 ((rd_T26 l0 x3_1).f2.f0)) ∧ w'.cell? ⟨(ad228.add ((x3_1).toNat * 10)).block, (ad228.add ((x3_1).toNat * 10)).off + 3, none⟩ = some (.float .f64 ((rd_T26 l0 x3_1).f2.f1)) ∧ w'.cell? ⟨(ad228.add ((x3_1).toNat * 10)).block, (ad228.add ((x3_1).toNat * 10)).off + 4, none⟩ = some (.float .f64 ((rd_T26 l0 x3_1).f2.f2)) ∧ w'.cell? ⟨(ad228.add ((x3_1).toNat * 10)).block, (ad228.add ((x3_1).toNat * 10)).off + 5, none⟩ = some (.float .f64 ((rd_T26 l0 x3_1).f2.f3)) ∧ w'.cell? ⟨(ad228.add ((x3_1).toNat * 10)).block, (ad228.add ((x3_1).toNat * 10)).off + 6, none⟩ = some (.float .f64 ((rd_T26 l0 x3_1).f2.f4)) ∧ w'.cell? ⟨(ad228.add ((x3_1).toNat * 10)).block, (ad228.add ((x3_1).toNat * 10)).off + 7, none⟩ = some (.float .f64 ((rd_T26 l0 x3_1).f2.f5)) ∧ w'.cell? ⟨(ad228.add ((x3_1).toNat * 10)).block, (ad228.add ((x3_1).toNat * 10)).off + 8, none⟩ = some (.float .f64 ((rd_T26 l0 x3_1).f2.f6)) ∧ w'.cell? ⟨(ad228.add ((x3_1).toNat * 10)).block, (ad228.add ((x3_1).toNat * 10)).off + 9, none⟩ = some (.float .f64 ((rd_T26 l0 x3_1).f2.f7)) ∧ w'.cell? (ad228.add ((x3_1).toNat * 10)) = some (.int .i64 ((rd_T26 l0 x3_1).f0)) ∧ w'.cell? ⟨(ad228.add ((x3_1).toNat * 10)).block, (ad228.add ((x3_1).toNat * 10)).off + 1, none⟩ = some (.int .i64 ((rd_T26 l0 x3_1).f1)) ∧ w'.cell? ⟨(ad228.add ((x3_1).toNat * 10)).block, (ad228.add ((x3_1).toNat * 10)).off + 2, none⟩ = some (.float .f64 ((rd_T26 l0 x3_1).f2.f0)) ∧ w'.cell? ⟨(ad228.add ((x3_1).toNat * 10)).block, (ad228.add ((x3_1).toNat * 10)).off + 3, none⟩ = some (.float .f64 ((rd_T26 l0 x3_1).f2.f1)) ∧ w'.cell? ⟨(ad228.add ((x3_1).toNat * 10)).block, (ad228.add ((x3_1).toNat * 10)).off + 4, none⟩ = some (.float .f64 ((rd_T26 l0 x3_1).f2.f2)) ∧ w'.cell? ⟨(ad228.add ((x3_1).toNat * 10)).block, (ad228.add ((x3_1).toNat * 10)).off + 5, none⟩ = some (.float .f64 ((rd_T26 l0 x3_1).f2.f3)) ∧ w'.cell? ⟨(ad228.add ((x3_1).toNat * 10)).block, (ad228.add ((x3_1).toNat * 10)).off + 6, none⟩ = some (.float .f64 ((rd_T26 l0 x3_1).f2.f4)) ∧ w'.cell? ⟨(ad228.add ((x3_1).toNat * 10)).block, (ad228.add ((x3_1).toNat * 10)).off + 7, none⟩ = some (.float .f64 ((rd_T26 l0 x3_1).f2.f5)) ∧ w'.cell? ⟨(ad228.add ((x3_1).toNat * 10)).block, (ad228.add ((x3_1).toNat * 10)).off + 8, none⟩ = some (.float .f64 ((rd_T26 l0 x3_1).f2.f6)) ∧ w'.cell? ⟨(ad228.add ((x3_1).toNat * 10)).block, (ad228.add ((x3_1).toNat * 10)).off + 9, none⟩ = some (.float .f64 ((rd_T26 l0 x3_1).f2.f7))) (ds := []) pointTurnsMask2 (by kernel_rfl) rfl rfl ⟨((HB.out.cell (World.block_lt_of_cell? w _ hw228_0)).trans hw228_0), ((HB.out.cell (World.block_lt_of_cell? w _ hw228_1)).trans hw228_1), ((HB.out.cell (World.block_lt_of_cell? w _ hw228_2)).trans hw228_2), ((HB.out.cell (World.block_lt_of_cell? w _ hw228_3)).trans hw228_3), ((HB.out.cell (World.block_lt_of_cell? w _ hw228_4)).trans hw228_4), ((HB.out.cell (World.block_lt_of_cell? w _ hw228_5)).trans hw228_5), ((HB.out.cell (World.block_lt_of_cell? w _ hw228_6)).trans hw228_6), ((HB.out.cell (World.block_lt_of_cell? w _ hw228_7)).trans hw228_7), ((HB.out.cell (World.block_lt_of_cell? w _ hw228_8)).trans hw228_8), ((HB.out.cell (World.block_lt_of_cell? w _ hw228_9)).trans hw228_9), ((HB.out.cell (World.block_lt_of_cell? w _ hw230_0)).trans hw230_0), ((HB.out.cell (World.block_lt_of_cell? w _ hw230_1)).trans hw230_1), ((HB.out.cell (World.block_lt_of_cell? w _ hw230_2)).trans hw230_2), ((HB.out.cell (World.block_lt_of_cell? w _ hw230_3)).trans hw230_3), ((HB.out.cell (World.block_lt_of_cell? w _ hw230_4)).trans hw230_4), ((HB.out.cell (World.block_lt_of_cell? w _ hw230_5)).trans hw230_5), ((HB.out.cell (World.block_lt_of_cell? w _ hw230_6)).trans hw230_6), ((HB.out.cell (World.block_lt_of_cell? w _ hw230_7)).trans hw230_7), ((HB.out.cell (World.block_lt_of_cell? w _ hw230_8)).trans hw230_8), ((HB.out.cell (World.block_lt_of_cell? w _ hw230_9)).trans hw230_9)⟩ (fun hHeld => ?_); refine with_tabW arraslaw3_PointTurns.tab7 arraslaw3_PointTurns.bits7 (fun HT_ HW_ => ?_)
            generalize wr.drew = w34 at HB hx228_0 hx228_1 hx228_2 hx228_3 hx228_4 hx228_5 hx228_6 hx228_7 hx228_8 hx228_9 hx230_0 hx230_1 hx230_2 hx230_3 hx230_4 hx230_5 hx230_6 hx230_7 hx230_8 hx230_9 hHeld ⊢
            refine pure_ (i := 0) (N := some 35) (v := ?_) (a' := ?_) pointTurnsMask5 rfl rfl (any_of HT_.out (by kernel_rfl)) (fun _ _ _ h => h) (Or.inl ⟨by rfl, ?_⟩) ?_ ?_
            rotate_left
            ·intro w'; go_simp
             with_reducible rfl
            rotate_left
            ·simp only [Act.put, List.setIfInBounds_toArray, List.set_cons_zero, List.set_cons_succ, i64_w, i32_w]
             rfl
            refine pure_ (i := 1) (N := some 36) (v := ?_) (a' := ?_) pointTurnsMask8 rfl rfl (any_of HT_.out (by kernel_rfl)) (fun _ _ _ h => h) (Or.inl ⟨by rfl, ?_⟩) ?_ ?_
            rotate_left
            ·intro w'; go_simp
             with_reducible rfl
            rotate_left
            ·simp only [Act.put, List.setIfInBounds_toArray, List.set_cons_zero, List.set_cons_succ, i64_w, i32_w]
             rfl
            refine pure_ (i := 2) (N := some 37) (v := ?_) (a' := ?_) pointTurnsMask11 rfl rfl (any_of HT_.out (by kernel_rfl)) (fun _ _ _ h => h) (Or.inl ⟨by rfl, ?_⟩) ?_ ?_
            rotate_left
            ·intro w'; go_simp
             with_reducible rfl
            rotate_left
            ·simp only [Act.put, List.setIfInBounds_toArray, List.set_cons_zero, List.set_cons_succ, i64_w, i32_w]
             rfl
            refine pure_ (i := 4) (N := some 39) (v := ?_) (a' := ?_) pointTurnsMask12 rfl rfl (any_of HT_.out (by kernel_rfl)) (fun _ _ _ h => h) (Or.inl ⟨by rfl, ?_⟩) ?_ ?_
            rotate_left
            ·intro w'; go_simp
             with_reducible rfl
            rotate_left
            ·simp only [Act.put, List.setIfInBounds_toArray, List.set_cons_zero, List.set_cons_succ, i64_w, i32_w]
             rfl
            refine pure_ (i := 6) (N := some 41) (v := ?_) (a' := ?_) pointTurnsMask13 rfl rfl (any_of HT_.out (by kernel_rfl)) (fun _ _ _ h => h) (Or.inl ⟨by rfl, ?_⟩) ?_ ?_
            rotate_left
            ·intro w'; go_simp
             with_reducible rfl
            rotate_left
            ·simp only [Act.put, List.setIfInBounds_toArray, List.set_cons_zero, List.set_cons_succ, i64_w, i32_w]
             rfl
            refine pure_ (i := 7) (N := some 42) (v := ?_) (a' := ?_) pointTurnsMask14 rfl rfl (any_of HT_.out (by kernel_rfl)) (fun _ _ _ h => h) (Or.inl ⟨by rfl, ?_⟩) ?_ ?_
            rotate_left
            ·intro w'; go_simp
             with_reducible rfl
            rotate_left
            ·simp only [Act.put, List.setIfInBounds_toArray, List.set_cons_zero, List.set_cons_succ, i64_w, i32_w]
             rfl
            refine pure_ (i := 8) (N := some 43) (v := ?_) (a' := ?_) pointTurnsMask15 rfl rfl (any_of HT_.out (by kernel_rfl)) (fun _ _ _ h => h) (Or.inl ⟨by rfl, ?_⟩) ?_ ?_
            rotate_left
            ·intro w'; go_simp
             with_reducible rfl
            rotate_left
            ·simp only [Act.put, List.setIfInBounds_toArray, List.set_cons_zero, List.set_cons_succ, i64_w, i32_w]
             rfl
            refine pure_ (i := 10) (N := some 45) (v := ?_) (a' := ?_) pointTurnsMask16 rfl rfl (any_of HT_.out (by kernel_rfl)) (fun _ _ _ h => h) (Or.inl ⟨by rfl, ?_⟩) ?_ ?_
            rotate_left
            ·intro w'; go_simp
             with_reducible rfl
            rotate_left
            ·simp only [Act.put, List.setIfInBounds_toArray, List.set_cons_zero, List.set_cons_succ, i64_w, i32_w]
             rfl
            refine pure_ (i := 11) (N := some 46) (v := ?_) (a' := ?_) pointTurnsMask17 rfl rfl (any_of HT_.out (by kernel_rfl)) (fun _ _ _ h => h) (Or.inl ⟨by rfl, ?_⟩) ?_ ?_
            rotate_left
            ·intro w'; go_simp
             with_reducible rfl
            rotate_left
            ·simp only [Act.put, List.setIfInBounds_toArray, List.set_cons_zero, List.set_cons_succ, i64_w, i32_w]
             rfl
            refine pure_ (i := 12) (N := some 47) (v := ?_) (a' := ?_) pointTurnsMask18 rfl rfl (any_of HT_.out (by kernel_rfl)) (fun _ _ _ h => h) (Or.inl ⟨by rfl, ?_⟩) ?_ ?_
            rotate_left
            ·intro w'; go_simp
             with_reducible rfl
            rotate_left
            ·simp only [Act.put, List.setIfInBounds_toArray, List.set_cons_zero, List.set_cons_succ, i64_w, i32_w]
             rfl
            refine take_ (i := 3) (N := some 38) (v := ?_) (a' := ?_) pointTurnsMask31 rfl rfl (take_ofW HT_.out HW_.out (by kernel_rfl)) (fun _ _ _ h => h) (Or.inl ⟨by rfl, ?_⟩) hHeld ?_ ?_
            rotate_left
            ·rintro w' ⟨s0, s1, s2, s3, s4, s5, s6, s7, s8, s9, s10, s11, s12, s13, s14, s15, s16, s17, s18, s19⟩
             go_simp
             with_reducible rfl
            rotate_left
            ·simp only [Act.put, List.setIfInBounds_toArray, List.set_cons_zero, List.set_cons_succ, i64_w, i32_w]
             rfl
            refine take_ (i := 9) (N := some 44) (v := ?_) (a' := ?_) pointTurnsMask34 rfl rfl (take_ofW HT_.out HW_.out (by kernel_rfl)) (fun _ _ _ h => h) (Or.inl ⟨by rfl, ?_⟩) hHeld ?_ ?_
            rotate_left
            ·rintro w' ⟨s0, s1, s2, s3, s4, s5, s6, s7, s8, s9, s10, s11, s12, s13, s14, s15, s16, s17, s18, s19⟩
             go_simp
             with_reducible rfl
            rotate_left
            ·simp only [Act.put, List.setIfInBounds_toArray, List.set_cons_zero, List.set_cons_succ, i64_w, i32_w]
             rfl
            refine one_ (i := 5) (N := some 40) pointTurnsMask41 rfl rfl (one_of HT_.out (by kernel_rfl)) (by decide) (fun K hK => ?_)
            refine goes_ Try.func14 (by kernel_rfl) rfl #[.agg #[.int .i64 ((rd_T26 l0 x3_1).f0), .int .i64 ((rd_T26 l0 x3_1).f1), .float .f64 ((rd_T26 l0 x3_1).f2.f0), .float .f64 ((rd_T26 l0 x3_1).f2.f1), .float .f64 ((rd_T26 l0 x3_1).f2.f2), .float .f64 ((rd_T26 l0 x3_1).f2.f3), .float .f64 ((rd_T26 l0 x3_1).f2.f4), .float .f64 ((rd_T26 l0 x3_1).f2.f5), .float .f64 ((rd_T26 l0 x3_1).f2.f6), .float .f64 ((rd_T26 l0 x3_1).f2.f7)], .int .i64 x4_3] (by rfl) rfl rfl (by (try simp only [List.map_toArray, List.map_cons, List.map_nil]); first | done | rfl | (simp only [List.length_drop, List.length_take]; rfl)) ?_
            with_reducible refine (arraslaw3_Ask_c.calls ((rd_T26 l0 x3_1).f0) ((rd_T26 l0 x3_1).f1) ((rd_T26 l0 x3_1).f2.f0) ((rd_T26 l0 x3_1).f2.f1) ((rd_T26 l0 x3_1).f2.f2) ((rd_T26 l0 x3_1).f2.f3) ((rd_T26 l0 x3_1).f2.f4) ((rd_T26 l0 x3_1).f2.f5) ((rd_T26 l0 x3_1).f2.f6) ((rd_T26 l0 x3_1).f2.f7) x4_3 t229 _ A8.out).mono ?_
            rintro e w35 ⟨rfl, hb⟩
            refine ⟨_, rfl, ?_⟩
            have n0_ := Aside0.mk (below_step (by repeat (first | (with_reducible first | exact HB.out | apply below_alloc | apply pw_below_drewN | apply below_drew1) | exact HB.out)) hb); clear HB; have HB := n0_; clear n0_
            (try clear hb)
            (try clear hb2)
            (try clear hk)
            (try clear hi)
            refine hK.out _ _ ⟨((HB.out.cell (World.block_lt_of_cell? w _ hw228_0)).trans hw228_0), ((HB.out.cell (World.block_lt_of_cell? w _ hw228_1)).trans hw228_1), ((HB.out.cell (World.block_lt_of_cell? w _ hw228_2)).trans hw228_2), ((HB.out.cell (World.block_lt_of_cell? w _ hw228_3)).trans hw228_3), ((HB.out.cell (World.block_lt_of_cell? w _ hw228_4)).trans hw228_4), ((HB.out.cell (World.block_lt_of_cell? w _ hw228_5)).trans hw228_5), ((HB.out.cell (World.block_lt_of_cell? w _ hw228_6)).trans hw228_6), ((HB.out.cell (World.block_lt_of_cell? w _ hw228_7)).trans hw228_7), ((HB.out.cell (World.block_lt_of_cell? w _ hw228_8)).trans hw228_8), ((HB.out.cell (World.block_lt_of_cell? w _ hw228_9)).trans hw228_9), ((HB.out.cell (World.block_lt_of_cell? w _ hw230_0)).trans hw230_0), ((HB.out.cell (World.block_lt_of_cell? w _ hw230_1)).trans hw230_1), ((HB.out.cell (World.block_lt_of_cell? w _ hw230_2)).trans hw230_2), ((HB.out.cell (World.block_lt_of_cell? w _ hw230_3)).trans hw230_3), ((HB.out.cell (World.block_lt_of_cell? w _ hw230_4)).trans hw230_4), ((HB.out.cell (World.block_lt_of_cell? w _ hw230_5)).trans hw230_5), ((HB.out.cell (World.block_lt_of_cell? w _ hw230_6)).trans hw230_6), ((HB.out.cell (World.block_lt_of_cell? w _ hw230_7)).trans hw230_7), ((HB.out.cell (World.block_lt_of_cell? w _ hw230_8)).trans hw230_8), ((HB.out.cell (World.block_lt_of_cell? w _ hw230_9)).trans hw230_9)⟩ (fun hHeld => ?_)
            clear hK K
            refine norm_ (a' := ?_) ?_ ?_
            rotate_left
            ·show Act.put _ (some 40) _ = _
             simp only [Act.put, List.setIfInBounds_toArray, List.set_cons_zero, List.set_cons_succ, i64_w, i32_w]
             rfl
            refine one_ (i := 13) (N := some 48) pointTurnsMask44 rfl rfl (one_of HT_.out (by kernel_rfl)) (by decide) (fun K hK => ?_)
            refine goes_ Try.func14 (by kernel_rfl) rfl #[.agg #[.int .i64 ((rd_T26 l0 x3_1).f0), .int .i64 ((rd_T26 l0 x3_1).f1), .float .f64 ((rd_T26 l0 x3_1).f2.f0), .float .f64 ((rd_T26 l0 x3_1).f2.f1), .float .f64 ((rd_T26 l0 x3_1).f2.f2), .float .f64 ((rd_T26 l0 x3_1).f2.f3), .float .f64 ((rd_T26 l0 x3_1).f2.f4), .float .f64 ((rd_T26 l0 x3_1).f2.f5), .float .f64 ((rd_T26 l0 x3_1).f2.f6), .float .f64 ((rd_T26 l0 x3_1).f2.f7)], .int .i64 (Int.tmod (wrap64 (x4_3 + 1)) 4)] (by rfl) rfl rfl (by (try simp only [List.map_toArray, List.map_cons, List.map_nil]); first | done | rfl | (simp only [List.length_drop, List.length_take]; rfl)) ?_
            with_reducible refine (arraslaw3_Ask_c.calls ((rd_T26 l0 x3_1).f0) ((rd_T26 l0 x3_1).f1) ((rd_T26 l0 x3_1).f2.f0) ((rd_T26 l0 x3_1).f2.f1) ((rd_T26 l0 x3_1).f2.f2) ((rd_T26 l0 x3_1).f2.f3) ((rd_T26 l0 x3_1).f2.f4) ((rd_T26 l0 x3_1).f2.f5) ((rd_T26 l0 x3_1).f2.f6) ((rd_T26 l0 x3_1).f2.f7) (Int.tmod (wrap64 (x4_3 + 1)) 4) t231 _ A9.out).mono ?_
            rintro e w36 ⟨rfl, hb⟩
            refine ⟨_, rfl, ?_⟩
            have n0_ := Aside0.mk (below_step (by repeat (first | (with_reducible first | exact HB.out | apply below_alloc | apply pw_below_drewN | apply below_drew1) | exact HB.out)) hb); clear HB; have HB := n0_; clear n0_
            (try clear hb)
            (try clear hb2)
            (try clear hk)
            (try clear hi)
            refine hK.out _ _ ⟨((HB.out.cell (World.block_lt_of_cell? w _ hw228_0)).trans hw228_0), ((HB.out.cell (World.block_lt_of_cell? w _ hw228_1)).trans hw228_1), ((HB.out.cell (World.block_lt_of_cell? w _ hw228_2)).trans hw228_2), ((HB.out.cell (World.block_lt_of_cell? w _ hw228_3)).trans hw228_3), ((HB.out.cell (World.block_lt_of_cell? w _ hw228_4)).trans hw228_4), ((HB.out.cell (World.block_lt_of_cell? w _ hw228_5)).trans hw228_5), ((HB.out.cell (World.block_lt_of_cell? w _ hw228_6)).trans hw228_6), ((HB.out.cell (World.block_lt_of_cell? w _ hw228_7)).trans hw228_7), ((HB.out.cell (World.block_lt_of_cell? w _ hw228_8)).trans hw228_8), ((HB.out.cell (World.block_lt_of_cell? w _ hw228_9)).trans hw228_9), ((HB.out.cell (World.block_lt_of_cell? w _ hw230_0)).trans hw230_0), ((HB.out.cell (World.block_lt_of_cell? w _ hw230_1)).trans hw230_1), ((HB.out.cell (World.block_lt_of_cell? w _ hw230_2)).trans hw230_2), ((HB.out.cell (World.block_lt_of_cell? w _ hw230_3)).trans hw230_3), ((HB.out.cell (World.block_lt_of_cell? w _ hw230_4)).trans hw230_4), ((HB.out.cell (World.block_lt_of_cell? w _ hw230_5)).trans hw230_5), ((HB.out.cell (World.block_lt_of_cell? w _ hw230_6)).trans hw230_6), ((HB.out.cell (World.block_lt_of_cell? w _ hw230_7)).trans hw230_7), ((HB.out.cell (World.block_lt_of_cell? w _ hw230_8)).trans hw230_8), ((HB.out.cell (World.block_lt_of_cell? w _ hw230_9)).trans hw230_9)⟩ (fun hHeld => ?_)
            clear hK K
            refine norm_ (a' := ?_) ?_ ?_
            rotate_left
            ·show Act.put _ (some 48) _ = _
             simp only [Act.put, List.setIfInBounds_toArray, List.set_cons_zero, List.set_cons_succ, i64_w, i32_w]
             rfl
            refine pure_ (i := 14) (N := some 5) (v := ?_) (a' := ?_) pointTurnsMask47 rfl rfl (any_of HT_.out (by kernel_rfl)) (fun _ _ _ h => h) (Or.inl ⟨by rfl, ?_⟩) ?_ ?_
            rotate_left
            ·intro w'; go_simp
             with_reducible rfl
            rotate_left
            ·simp only [Act.put, List.setIfInBounds_toArray, List.set_cons_zero, List.set_cons_succ, i64_w, i32_w]
             rfl
            refine pure_ (i := 15) (N := some 6) (v := ?_) (a' := ?_) pointTurnsMask55 rfl rfl (any_of HT_.out (by kernel_rfl)) (fun _ _ _ h => h) (Or.inl ⟨by rfl, ?_⟩) ?_ ?_
            rotate_left
            ·intro w'; go_simp
             with_reducible rfl
            rotate_left
            ·simp only [Act.put, List.setIfInBounds_toArray, List.set_cons_zero, List.set_cons_succ, i64_w, i32_w]
             rfl
            refine done_ (done_of HT_.out (by kernel_rfl)) ?_
            try go_wp2_with (first | ((with_reducible refine gate_callee (f := 15) rfl ?_); refine goesL_ (some 51) rfl rfl Try.func15 (by kernel_rfl) rfl #[.complex .f64 t229.1 t229.2] rfl (by (try simp only [List.map_toArray, List.map_cons, List.map_nil]); first | done | rfl | (simp only [List.length_drop, List.length_take]; rfl)) ?_; (with_reducible refine (point_Turn.calls k3 t229 t232 t233 _ A10.out).mono ?_); rintro e w37 ⟨rfl, hb⟩; refine ⟨_, rfl, ?_⟩; have n0_ := Aside0.mk (below_step (by repeat (first | (with_reducible first | exact HB.out | apply below_alloc | apply pw_below_drewN | apply below_drew1) | exact HB.out)) hb); clear HB; have HB := n0_; clear n0_; (try clear hb); (try clear hb2); (try clear hk); (try clear hi)) | ((with_reducible refine gate_callee (f := 17) rfl ?_); refine goesL_ (some 55) rfl rfl Try.func17 (by kernel_rfl) rfl #[.int .i64 t233] rfl (by (try simp only [List.map_toArray, List.map_cons, List.map_nil]); first | done | rfl | (simp only [List.length_drop, List.length_take]; rfl)) ?_; (with_reducible refine (arraslaw3_num.calls t233 t234 _ A11.out).mono ?_); rintro e w' ⟨rfl, ⟨nd, rfl⟩⟩; refine ⟨_, rfl, ?_⟩))
            go_roundg k3
            case measure => have := HK1.out; have := HJ1.out; have := HK3.out; omega
            case rel => exact ⟨(wrap64 (x4_3 + 1)), (by first | rfl | (simp; done) | (simp [*]; done)), H', ⟨by have := HK1.out; have := HJ1.out; have := HK3.out; omega⟩, ⟨by repeat (first | (with_reducible first | exact HB.out | apply below_alloc | apply pw_below_drewN | apply below_drew1) | exact HB.out)⟩⟩
          ·rw [if_neg c7] at H
           exact absurd H (by simp)
         ·rw [if_neg c6] at H
          exact absurd H (by simp)
        ·rw [if_neg c5] at H
         have c5b0 : decide (x4_3 < 4) = false := decide_eq_false c5
         clear c5
         by_cases c38 : 0 ≤ x3_1
         ·rw [if_pos c38] at H
          have c38b0 : decide (0 ≤ x3_1) = true := decide_eq_true c38
          clear c38
          by_cases c39 : x3_1 < (l0.length : Int)
          ·rw [if_pos c39] at H
           have c39b0 : decide (x3_1 < (l0.length : Int)) = true := decide_eq_true c39
           clear c39
           replace H := Option.bind_eq_some_iff.mp H
           obtain ⟨t245, A400, H⟩ := H
           replace H : ((arraslaw0_Within.f ((rd_T26 l0 x3_1).f1) 1073741824).bind fun t247 => ((point_Of.f t245 t247).bind fun bt248 => ((arraslaw0_Within.f ((rd_T26 l0 x3_1).f1) 1073741824).bind fun t251 => ((arraslaw0_Within.f ((rd_T26 l0 x3_1).f0) 1073741824).bind fun t253 => ((point_Of.f (wrap64 (-t251)) t253).bind fun bt254 => ((point_Add.f k3 bt248.1 bt254.1).bind fun bt256 => ((point_Sub.f k3 bt256.1 bt254.1).bind fun bt258 => ((arraslaw3_num.f bt248.2).bind fun t260 => (if t260 = 0 then ((arraslaw3_num.f bt254.2).bind fun t261 => (if t261 = 0 then ((arraslaw3_num.f bt256.2).bind fun t262 => (if t262 = 0 then ((arraslaw3_num.f bt258.2).bind fun t263 => (if t263 = 0 then (if ((feq bt258.1.1 bt248.1.1 && feq bt258.1.2 bt248.1.2) = true) then (if fAddIs bt248.1.1 bt254.1.1 = true then (if fAddIs bt248.1.2 bt254.1.2 = true then (if ((feq bt256.1.1 (fAdd bt248.1.1 bt254.1.1) && feq bt256.1.2 (fAdd bt248.1.2 bt254.1.2)) = true) then ((arrasref3_Point.f bt256.1).bind fun t264 => (arraslaw3_PointTurns.j5 k3 l0 x3_1 (!t264))) else (arraslaw3_PointTurns.j5 k3 l0 x3_1 true)) else (none)) else (none)) else (arraslaw3_PointTurns.j5 k3 l0 x3_1 true)) else (arraslaw3_PointTurns.j5 k3 l0 x3_1 true))) else (arraslaw3_PointTurns.j5 k3 l0 x3_1 true))) else (arraslaw3_PointTurns.j5 k3 l0 x3_1 true))) else (arraslaw3_PointTurns.j5 k3 l0 x3_1 true)))))))))) = some r := H
           have A40 := Aside0.mk A400; clear A400
           replace H := Option.bind_eq_some_iff.mp H
           obtain ⟨t247, A410, H⟩ := H
           replace H : ((point_Of.f t245 t247).bind fun bt248 => ((arraslaw0_Within.f ((rd_T26 l0 x3_1).f1) 1073741824).bind fun t251 => ((arraslaw0_Within.f ((rd_T26 l0 x3_1).f0) 1073741824).bind fun t253 => ((point_Of.f (wrap64 (-t251)) t253).bind fun bt254 => ((point_Add.f k3 bt248.1 bt254.1).bind fun bt256 => ((point_Sub.f k3 bt256.1 bt254.1).bind fun bt258 => ((arraslaw3_num.f bt248.2).bind fun t260 => (if t260 = 0 then ((arraslaw3_num.f bt254.2).bind fun t261 => (if t261 = 0 then ((arraslaw3_num.f bt256.2).bind fun t262 => (if t262 = 0 then ((arraslaw3_num.f bt258.2).bind fun t263 => (if t263 = 0 then (if ((feq bt258.1.1 bt248.1.1 && feq bt258.1.2 bt248.1.2) = true) then (if fAddIs bt248.1.1 bt254.1.1 = true then (if fAddIs bt248.1.2 bt254.1.2 = true then (if ((feq bt256.1.1 (fAdd bt248.1.1 bt254.1.1) && feq bt256.1.2 (fAdd bt248.1.2 bt254.1.2)) = true) then ((arrasref3_Point.f bt256.1).bind fun t264 => (arraslaw3_PointTurns.j5 k3 l0 x3_1 (!t264))) else (arraslaw3_PointTurns.j5 k3 l0 x3_1 true)) else (none)) else (none)) else (arraslaw3_PointTurns.j5 k3 l0 x3_1 true)) else (arraslaw3_PointTurns.j5 k3 l0 x3_1 true))) else (arraslaw3_PointTurns.j5 k3 l0 x3_1 true))) else (arraslaw3_PointTurns.j5 k3 l0 x3_1 true))) else (arraslaw3_PointTurns.j5 k3 l0 x3_1 true))))))))) = some r := H
           have A41 := Aside0.mk A410; clear A410
           replace H := Option.bind_eq_some_iff.mp H
           obtain ⟨⟨t248, t249⟩, A420, H⟩ := H
           replace H : ((arraslaw0_Within.f ((rd_T26 l0 x3_1).f1) 1073741824).bind fun t251 => ((arraslaw0_Within.f ((rd_T26 l0 x3_1).f0) 1073741824).bind fun t253 => ((point_Of.f (wrap64 (-t251)) t253).bind fun bt254 => ((point_Add.f k3 t248 bt254.1).bind fun bt256 => ((point_Sub.f k3 bt256.1 bt254.1).bind fun bt258 => ((arraslaw3_num.f t249).bind fun t260 => (if t260 = 0 then ((arraslaw3_num.f bt254.2).bind fun t261 => (if t261 = 0 then ((arraslaw3_num.f bt256.2).bind fun t262 => (if t262 = 0 then ((arraslaw3_num.f bt258.2).bind fun t263 => (if t263 = 0 then (if ((feq bt258.1.1 t248.1 && feq bt258.1.2 t248.2) = true) then (if fAddIs t248.1 bt254.1.1 = true then (if fAddIs t248.2 bt254.1.2 = true then (if ((feq bt256.1.1 (fAdd t248.1 bt254.1.1) && feq bt256.1.2 (fAdd t248.2 bt254.1.2)) = true) then ((arrasref3_Point.f bt256.1).bind fun t264 => (arraslaw3_PointTurns.j5 k3 l0 x3_1 (!t264))) else (arraslaw3_PointTurns.j5 k3 l0 x3_1 true)) else (none)) else (none)) else (arraslaw3_PointTurns.j5 k3 l0 x3_1 true)) else (arraslaw3_PointTurns.j5 k3 l0 x3_1 true))) else (arraslaw3_PointTurns.j5 k3 l0 x3_1 true))) else (arraslaw3_PointTurns.j5 k3 l0 x3_1 true))) else (arraslaw3_PointTurns.j5 k3 l0 x3_1 true)))))))) = some r := H
           have A42 := Aside0.mk A420; clear A420
           replace H := Option.bind_eq_some_iff.mp H
           obtain ⟨t251, A430, H⟩ := H
           replace H : ((arraslaw0_Within.f ((rd_T26 l0 x3_1).f0) 1073741824).bind fun t253 => ((point_Of.f (wrap64 (-t251)) t253).bind fun bt254 => ((point_Add.f k3 t248 bt254.1).bind fun bt256 => ((point_Sub.f k3 bt256.1 bt254.1).bind fun bt258 => ((arraslaw3_num.f t249).bind fun t260 => (if t260 = 0 then ((arraslaw3_num.f bt254.2).bind fun t261 => (if t261 = 0 then ((arraslaw3_num.f bt256.2).bind fun t262 => (if t262 = 0 then ((arraslaw3_num.f bt258.2).bind fun t263 => (if t263 = 0 then (if ((feq bt258.1.1 t248.1 && feq bt258.1.2 t248.2) = true) then (if fAddIs t248.1 bt254.1.1 = true then (if fAddIs t248.2 bt254.1.2 = true then (if ((feq bt256.1.1 (fAdd t248.1 bt254.1.1) && feq bt256.1.2 (fAdd t248.2 bt254.1.2)) = true) then ((arrasref3_Point.f bt256.1).bind fun t264 => (arraslaw3_PointTurns.j5 k3 l0 x3_1 (!t264))) else (arraslaw3_PointTurns.j5 k3 l0 x3_1 true)) else (none)) else (none)) else (arraslaw3_PointTurns.j5 k3 l0 x3_1 true)) else (arraslaw3_PointTurns.j5 k3 l0 x3_1 true))) else (arraslaw3_PointTurns.j5 k3 l0 x3_1 true))) else (arraslaw3_PointTurns.j5 k3 l0 x3_1 true))) else (arraslaw3_PointTurns.j5 k3 l0 x3_1 true))))))) = some r := H
           have A43 := Aside0.mk A430; clear A430
           replace H := Option.bind_eq_some_iff.mp H
           obtain ⟨t253, A440, H⟩ := H
           replace H : ((point_Of.f (wrap64 (-t251)) t253).bind fun bt254 => ((point_Add.f k3 t248 bt254.1).bind fun bt256 => ((point_Sub.f k3 bt256.1 bt254.1).bind fun bt258 => ((arraslaw3_num.f t249).bind fun t260 => (if t260 = 0 then ((arraslaw3_num.f bt254.2).bind fun t261 => (if t261 = 0 then ((arraslaw3_num.f bt256.2).bind fun t262 => (if t262 = 0 then ((arraslaw3_num.f bt258.2).bind fun t263 => (if t263 = 0 then (if ((feq bt258.1.1 t248.1 && feq bt258.1.2 t248.2) = true) then (if fAddIs t248.1 bt254.1.1 = true then (if fAddIs t248.2 bt254.1.2 = true then (if ((feq bt256.1.1 (fAdd t248.1 bt254.1.1) && feq bt256.1.2 (fAdd t248.2 bt254.1.2)) = true) then ((arrasref3_Point.f bt256.1).bind fun t264 => (arraslaw3_PointTurns.j5 k3 l0 x3_1 (!t264))) else (arraslaw3_PointTurns.j5 k3 l0 x3_1 true)) else (none)) else (none)) else (arraslaw3_PointTurns.j5 k3 l0 x3_1 true)) else (arraslaw3_PointTurns.j5 k3 l0 x3_1 true))) else (arraslaw3_PointTurns.j5 k3 l0 x3_1 true))) else (arraslaw3_PointTurns.j5 k3 l0 x3_1 true))) else (arraslaw3_PointTurns.j5 k3 l0 x3_1 true)))))) = some r := H
           have A44 := Aside0.mk A440; clear A440
           replace H := Option.bind_eq_some_iff.mp H
           obtain ⟨⟨t254, t255⟩, A450, H⟩ := H
           replace H : ((point_Add.f k3 t248 t254).bind fun bt256 => ((point_Sub.f k3 bt256.1 t254).bind fun bt258 => ((arraslaw3_num.f t249).bind fun t260 => (if t260 = 0 then ((arraslaw3_num.f t255).bind fun t261 => (if t261 = 0 then ((arraslaw3_num.f bt256.2).bind fun t262 => (if t262 = 0 then ((arraslaw3_num.f bt258.2).bind fun t263 => (if t263 = 0 then (if ((feq bt258.1.1 t248.1 && feq bt258.1.2 t248.2) = true) then (if fAddIs t248.1 t254.1 = true then (if fAddIs t248.2 t254.2 = true then (if ((feq bt256.1.1 (fAdd t248.1 t254.1) && feq bt256.1.2 (fAdd t248.2 t254.2)) = true) then ((arrasref3_Point.f bt256.1).bind fun t264 => (arraslaw3_PointTurns.j5 k3 l0 x3_1 (!t264))) else (arraslaw3_PointTurns.j5 k3 l0 x3_1 true)) else (none)) else (none)) else (arraslaw3_PointTurns.j5 k3 l0 x3_1 true)) else (arraslaw3_PointTurns.j5 k3 l0 x3_1 true))) else (arraslaw3_PointTurns.j5 k3 l0 x3_1 true))) else (arraslaw3_PointTurns.j5 k3 l0 x3_1 true))) else (arraslaw3_PointTurns.j5 k3 l0 x3_1 true))))) = some r := H
           have A45 := Aside0.mk A450; clear A450
           replace H := Option.bind_eq_some_iff.mp H
           obtain ⟨⟨t256, t257⟩, A460, H⟩ := H
           replace H : ((point_Sub.f k3 t256 t254).bind fun bt258 => ((arraslaw3_num.f t249).bind fun t260 => (if t260 = 0 then ((arraslaw3_num.f t255).bind fun t261 => (if t261 = 0 then ((arraslaw3_num.f t257).bind fun t262 => (if t262 = 0 then ((arraslaw3_num.f bt258.2).bind fun t263 => (if t263 = 0 then (if ((feq bt258.1.1 t248.1 && feq bt258.1.2 t248.2) = true) then (if fAddIs t248.1 t254.1 = true then (if fAddIs t248.2 t254.2 = true then (if ((feq t256.1 (fAdd t248.1 t254.1) && feq t256.2 (fAdd t248.2 t254.2)) = true) then ((arrasref3_Point.f t256).bind fun t264 => (arraslaw3_PointTurns.j5 k3 l0 x3_1 (!t264))) else (arraslaw3_PointTurns.j5 k3 l0 x3_1 true)) else (none)) else (none)) else (arraslaw3_PointTurns.j5 k3 l0 x3_1 true)) else (arraslaw3_PointTurns.j5 k3 l0 x3_1 true))) else (arraslaw3_PointTurns.j5 k3 l0 x3_1 true))) else (arraslaw3_PointTurns.j5 k3 l0 x3_1 true))) else (arraslaw3_PointTurns.j5 k3 l0 x3_1 true)))) = some r := H
           have A46 := Aside0.mk A460; clear A460
           replace H := Option.bind_eq_some_iff.mp H
           obtain ⟨⟨t258, t259⟩, A470, H⟩ := H
           replace H : ((arraslaw3_num.f t249).bind fun t260 => (if t260 = 0 then ((arraslaw3_num.f t255).bind fun t261 => (if t261 = 0 then ((arraslaw3_num.f t257).bind fun t262 => (if t262 = 0 then ((arraslaw3_num.f t259).bind fun t263 => (if t263 = 0 then (if ((feq t258.1 t248.1 && feq t258.2 t248.2) = true) then (if fAddIs t248.1 t254.1 = true then (if fAddIs t248.2 t254.2 = true then (if ((feq t256.1 (fAdd t248.1 t254.1) && feq t256.2 (fAdd t248.2 t254.2)) = true) then ((arrasref3_Point.f t256).bind fun t264 => (arraslaw3_PointTurns.j5 k3 l0 x3_1 (!t264))) else (arraslaw3_PointTurns.j5 k3 l0 x3_1 true)) else (none)) else (none)) else (arraslaw3_PointTurns.j5 k3 l0 x3_1 true)) else (arraslaw3_PointTurns.j5 k3 l0 x3_1 true))) else (arraslaw3_PointTurns.j5 k3 l0 x3_1 true))) else (arraslaw3_PointTurns.j5 k3 l0 x3_1 true))) else (arraslaw3_PointTurns.j5 k3 l0 x3_1 true))) = some r := H
           have A47 := Aside0.mk A470; clear A470; have HC48 := Aside0.mk H; clear H
           try go_wp2
           have n0_ := Aside0.mk (below_drew1 HB.out); clear HB; have HB := n0_; clear n0_; have p244 : 0 ≤ (x3_1 : Int) := of_decide_eq_true (by first | (with_reducible assumption) | assumption); have q244 : x3_1 < (l0.length : Int) := of_decide_eq_true (by first | (with_reducible assumption) | assumption)
           obtain ⟨ad244, e244, hx244_0, hx244_1, hx244_2, hx244_3, hx244_4, hx244_5, hx244_6, hx244_7, hx244_8, hx244_9⟩ := at_T26 HR0.out x3_1 p244 q244
           have hw244_9 := hx244_9; have hw244_8 := hx244_8; have hw244_7 := hx244_7; have hw244_6 := hx244_6; have hw244_5 := hx244_5; have hw244_4 := hx244_4; have hw244_3 := hx244_3; have hw244_2 := hx244_2; have hw244_1 := hx244_1; have hw244_0 := hx244_0; cases e244
           replace hx244_0 := (HB.out.cell (World.block_lt_of_cell? w _ hx244_0)).trans hx244_0
           replace hx244_1 := (HB.out.cell (World.block_lt_of_cell? w _ hx244_1)).trans hx244_1
           replace hx244_2 := (HB.out.cell (World.block_lt_of_cell? w _ hx244_2)).trans hx244_2
           replace hx244_3 := (HB.out.cell (World.block_lt_of_cell? w _ hx244_3)).trans hx244_3
           replace hx244_4 := (HB.out.cell (World.block_lt_of_cell? w _ hx244_4)).trans hx244_4
           replace hx244_5 := (HB.out.cell (World.block_lt_of_cell? w _ hx244_5)).trans hx244_5
           replace hx244_6 := (HB.out.cell (World.block_lt_of_cell? w _ hx244_6)).trans hx244_6
           replace hx244_7 := (HB.out.cell (World.block_lt_of_cell? w _ hx244_7)).trans hx244_7
           replace hx244_8 := (HB.out.cell (World.block_lt_of_cell? w _ hx244_8)).trans hx244_8
           replace hx244_9 := (HB.out.cell (World.block_lt_of_cell? w _ hx244_9)).trans hx244_9
           replace p244 := eq_true p244; replace q244 := eq_true q244; have p246 : 0 ≤ (x3_1 : Int) := of_decide_eq_true (by first | (with_reducible assumption) | assumption); have q246 : x3_1 < (l0.length : Int) := of_decide_eq_true (by first | (with_reducible assumption) | assumption)
           obtain ⟨ad246, e246, hx246_0, hx246_1, hx246_2, hx246_3, hx246_4, hx246_5, hx246_6, hx246_7, hx246_8, hx246_9⟩ := at_T26 HR0.out x3_1 p246 q246
           have hw246_9 := hx246_9; have hw246_8 := hx246_8; have hw246_7 := hx246_7; have hw246_6 := hx246_6; have hw246_5 := hx246_5; have hw246_4 := hx246_4; have hw246_3 := hx246_3; have hw246_2 := hx246_2; have hw246_1 := hx246_1; have hw246_0 := hx246_0; obtain rfl : ad244 = ad246 := (by injection e246)
           replace hx246_0 := (HB.out.cell (World.block_lt_of_cell? w _ hx246_0)).trans hx246_0
           replace hx246_1 := (HB.out.cell (World.block_lt_of_cell? w _ hx246_1)).trans hx246_1
           replace hx246_2 := (HB.out.cell (World.block_lt_of_cell? w _ hx246_2)).trans hx246_2
           replace hx246_3 := (HB.out.cell (World.block_lt_of_cell? w _ hx246_3)).trans hx246_3
           replace hx246_4 := (HB.out.cell (World.block_lt_of_cell? w _ hx246_4)).trans hx246_4
           replace hx246_5 := (HB.out.cell (World.block_lt_of_cell? w _ hx246_5)).trans hx246_5
           replace hx246_6 := (HB.out.cell (World.block_lt_of_cell? w _ hx246_6)).trans hx246_6
           replace hx246_7 := (HB.out.cell (World.block_lt_of_cell? w _ hx246_7)).trans hx246_7
           replace hx246_8 := (HB.out.cell (World.block_lt_of_cell? w _ hx246_8)).trans hx246_8
           replace hx246_9 := (HB.out.cell (World.block_lt_of_cell? w _ hx246_9)).trans hx246_9
           replace p246 := eq_true p246; replace q246 := eq_true q246
           refine start_ (n := 18) (S := fun w' => w'.cell? (ad244.add ((x3_1).toNat * 10)) = some (.int .i64 ((rd_T26 l0 x3_1).f0)) ∧ w'.cell? ⟨(ad244.add ((x3_1).toNat * 10)).block, (ad244.add ((x3_1).toNat * 10)).off + 1, none⟩ = some (.int .i64 ((rd_T26 l0 x3_1).f1)) ∧ w'.cell? ⟨(ad244.add ((x3_1).toNat * 10)).block, (ad244.add ((x3_1).toNat * 10)).off + 2, none⟩ = some (.float .f64 ((rd_T26 l0 x3_1).f2.f0)) ∧ w'.cell? ⟨(ad244.add ((x3_1).toNat * 10)).block, (ad244.add ((x3_1).toNat * 10)).off + 3, none⟩ = some (.float .f64 ((rd_T26 l0 x3_1).f2.f1)) ∧ w'.cell? ⟨(ad244.add ((x3_1).toNat * 10)).block, (ad244.add ((x3_1).toNat * 10)).off + 4, none⟩ = some (.float .f64 ((rd_T26 l0 x3_1).f2.f2)) ∧ w'.cell? ⟨(ad244.add ((x3_1).toNat * 10)).block, (ad244.add ((x3_1).toNat * 10)).off + 5, none⟩ = some (.float .f64 ((rd_T26 l0 x3_1).f2.f3)) ∧ w'.cell? ⟨(ad244.add ((x3_1).toNat * 10)).block, (ad244.add ((x3_1).toNat * 10)).off + 6, none⟩ = some (.float .f64 ((rd_T26 l0 x3_1).f2.f4)) ∧ w'.cell? ⟨(ad244.add ((x3_1).toNat * 10)).block, (ad244.add ((x3_1).toNat * 10)).off + 7, none⟩ = some (.float .f64 ((rd_T26 l0 x3_1).f2.f5)) ∧ w'.cell? ⟨(ad244.add ((x3_1).toNat * 10)).block, (ad244.add ((x3_1).toNat * 10)).off + 8, none⟩ = some (.float .f64 ((rd_T26 l0 x3_1).f2.f6)) ∧ w'.cell? ⟨(ad244.add ((x3_1).toNat * 10)).block, (ad244.add ((x3_1).toNat * 10)).off + 9, none⟩ = some (.float .f64 ((rd_T26 l0 x3_1).f2.f7)) ∧ w'.cell? (ad244.add ((x3_1).toNat * 10)) = some (.int .i64 ((rd_T26 l0 x3_1).f0)) ∧ w'.cell? ⟨(ad244.add ((x3_1).toNat * 10)).block, (ad244.add ((x3_1).toNat * 10)).off + 1, none⟩ = some (.int .i64 ((rd_T26 l0 x3_1).f1)) ∧ w'.cell? ⟨(ad244.add ((x3_1).toNat * 10)).block, (ad244.add ((x3_1).toNat * 10)).off + 2, none⟩ = some (.float .f64 ((rd_T26 l0 x3_1).f2.f0)) ∧ w'.cell? ⟨(ad244.add ((x3_1).toNat * 10)).block, (ad244.add ((x3_1).toNat * 10)).off + 3, none⟩ = some (.float .f64 ((rd_T26 l0 x3_1).f2.f1)) ∧ w'.cell? ⟨(ad244.add ((x3_1).toNat * 10)).block, (ad244.add ((x3_1).toNat * 10)).off + 4, none⟩ = some (.float .f64 ((rd_T26 l0 x3_1).f2.f2)) ∧ w'.cell? ⟨(ad244.add ((x3_1).toNat * 10)).block, (ad244.add ((x3_1).toNat * 10)).off + 5, none⟩ = some (.float .f64 ((rd_T26 l0 x3_1).f2.f3)) ∧ w'.cell? ⟨(ad244.add ((x3_1).toNat * 10)).block, (ad244.add ((x3_1).toNat * 10)).off + 6, none⟩ = some (.float .f64 ((rd_T26 l0 x3_1).f2.f4)) ∧ w'.cell? ⟨(ad244.add ((x3_1).toNat * 10)).block, (ad244.add ((x3_1).toNat * 10)).off + 7, none⟩ = some (.float .f64 ((rd_T26 l0 x3_1).f2.f5)) ∧ w'.cell? ⟨(ad244.add ((x3_1).toNat * 10)).block, (ad244.add ((x3_1).toNat * 10)).off + 8, none⟩ = some (.float .f64 ((rd_T26 l0 x3_1).f2.f6)) ∧ w'.cell? ⟨(ad244.add ((x3_1).toNat * 10)).block, (ad244.add ((x3_1).toNat * 10)).off + 9, none⟩ = some (.float .f64 ((rd_T26 l0 x3_1).f2.f7))) (ds := []) pointTurnsMask1 (by kernel_rfl) rfl rfl ⟨((HB.out.cell (World.block_lt_of_cell? w _ hw244_0)).trans hw244_0), ((HB.out.cell (World.block_lt_of_cell? w _ hw244_1)).trans hw244_1), ((HB.out.cell (World.block_lt_of_cell? w _ hw244_2)).trans hw244_2), ((HB.out.cell (World.block_lt_of_cell? w _ hw244_3)).trans hw244_3), ((HB.out.cell (World.block_lt_of_cell? w _ hw244_4)).trans hw244_4), ((HB.out.cell (World.block_lt_of_cell? w _ hw244_5)).trans hw244_5), ((HB.out.cell (World.block_lt_of_cell? w _ hw244_6)).trans hw244_6), ((HB.out.cell (World.block_lt_of_cell? w _ hw244_7)).trans hw244_7), ((HB.out.cell (World.block_lt_of_cell? w _ hw244_8)).trans hw244_8), ((HB.out.cell (World.block_lt_of_cell? w _ hw244_9)).trans hw244_9), ((HB.out.cell (World.block_lt_of_cell? w _ hw246_0)).trans hw246_0), ((HB.out.cell (World.block_lt_of_cell? w _ hw246_1)).trans hw246_1), ((HB.out.cell (World.block_lt_of_cell? w _ hw246_2)).trans hw246_2), ((HB.out.cell (World.block_lt_of_cell? w _ hw246_3)).trans hw246_3), ((HB.out.cell (World.block_lt_of_cell? w _ hw246_4)).trans hw246_4), ((HB.out.cell (World.block_lt_of_cell? w _ hw246_5)).trans hw246_5), ((HB.out.cell (World.block_lt_of_cell? w _ hw246_6)).trans hw246_6), ((HB.out.cell (World.block_lt_of_cell? w _ hw246_7)).trans hw246_7), ((HB.out.cell (World.block_lt_of_cell? w _ hw246_8)).trans hw246_8), ((HB.out.cell (World.block_lt_of_cell? w _ hw246_9)).trans hw246_9)⟩ (fun hHeld => ?_); refine with_tabW arraslaw3_PointTurns.tab17 arraslaw3_PointTurns.bits17 (fun HT_ HW_ => ?_)
           generalize wr.drew = w49 at HB hx244_0 hx244_1 hx244_2 hx244_3 hx244_4 hx244_5 hx244_6 hx244_7 hx244_8 hx244_9 hx246_0 hx246_1 hx246_2 hx246_3 hx246_4 hx246_5 hx246_6 hx246_7 hx246_8 hx246_9 hHeld ⊢
           refine pure_ (i := 0) (N := some 107) (v := ?_) (a' := ?_) pointTurnsMask4 rfl rfl (any_of HT_.out (by kernel_rfl)) (fun _ _ _ h => h) (Or.inl ⟨by rfl, ?_⟩) ?_ ?_
           rotate_left
           ·intro w'; go_simp
            with_reducible rfl
           rotate_left
           ·simp only [Act.put, List.setIfInBounds_toArray, List.set_cons_zero, List.set_cons_succ, i64_w, i32_w]
            rfl
           refine pure_ (i := 1) (N := some 108) (v := ?_) (a' := ?_) pointTurnsMask7 rfl rfl (any_of HT_.out (by kernel_rfl)) (fun _ _ _ h => h) (Or.inl ⟨by rfl, ?_⟩) ?_ ?_
           rotate_left
           ·intro w'; go_simp
            with_reducible rfl
           rotate_left
           ·simp only [Act.put, List.setIfInBounds_toArray, List.set_cons_zero, List.set_cons_succ, i64_w, i32_w]
            rfl
           refine pure_ (i := 2) (N := some 109) (v := ?_) (a' := ?_) pointTurnsMask10 rfl rfl (any_of HT_.out (by kernel_rfl)) (fun _ _ _ h => h) (Or.inl ⟨by rfl, ?_⟩) ?_ ?_
           rotate_left
           ·intro w'; go_simp
            with_reducible rfl
           rotate_left
           ·simp only [Act.put, List.setIfInBounds_toArray, List.set_cons_zero, List.set_cons_succ, i64_w, i32_w]
            rfl
           refine pure_ (i := 3) (N := some 110) (v := ?_) (a' := ?_) pointTurnsMask20 rfl rfl (any_of HT_.out (by kernel_rfl)) (fun _ _ _ h => h) (Or.inl ⟨by rfl, ?_⟩) ?_ ?_
           rotate_left
           ·intro w'; go_simp
            with_reducible rfl
           rotate_left
           ·simp only [Act.put, List.setIfInBounds_toArray, List.set_cons_zero, List.set_cons_succ, i64_w, i32_w]
            rfl
           refine pure_ (i := 6) (N := some 113) (v := ?_) (a' := ?_) pointTurnsMask25 rfl rfl (any_of HT_.out (by kernel_rfl)) (fun _ _ _ h => h) (Or.inl ⟨by rfl, ?_⟩) ?_ ?_
           rotate_left
           ·intro w'; go_simp
            with_reducible rfl
           rotate_left
           ·simp only [Act.put, List.setIfInBounds_toArray, List.set_cons_zero, List.set_cons_succ, i64_w, i32_w]
            rfl
           refine pure_ (i := 7) (N := some 114) (v := ?_) (a' := ?_) pointTurnsMask26 rfl rfl (any_of HT_.out (by kernel_rfl)) (fun _ _ _ h => h) (Or.inl ⟨by rfl, ?_⟩) ?_ ?_
           rotate_left
           ·intro w'; go_simp
            with_reducible rfl
           rotate_left
           ·simp only [Act.put, List.setIfInBounds_toArray, List.set_cons_zero, List.set_cons_succ, i64_w, i32_w]
            rfl
           refine pure_ (i := 8) (N := some 115) (v := ?_) (a' := ?_) pointTurnsMask27 rfl rfl (any_of HT_.out (by kernel_rfl)) (fun _ _ _ h => h) (Or.inl ⟨by rfl, ?_⟩) ?_ ?_
           rotate_left
           ·intro w'; go_simp
            with_reducible rfl
           rotate_left
           ·simp only [Act.put, List.setIfInBounds_toArray, List.set_cons_zero, List.set_cons_succ, i64_w, i32_w]
            rfl
           refine pure_ (i := 9) (N := some 116) (v := ?_) (a' := ?_) pointTurnsMask28 rfl rfl (any_of HT_.out (by kernel_rfl)) (fun _ _ _ h => h) (Or.inl ⟨by rfl, ?_⟩) ?_ ?_
           rotate_left
           ·intro w'; go_simp
            with_reducible rfl
           rotate_left
           ·simp only [Act.put, List.setIfInBounds_toArray, List.set_cons_zero, List.set_cons_succ, i64_w, i32_w]
            rfl
           refine take_ (i := 4) (N := some 111) (v := ?_) (a' := ?_) pointTurnsMask32 rfl rfl (take_ofW HT_.out HW_.out (by kernel_rfl)) (fun _ _ _ h => h) (Or.inl ⟨by rfl, ?_⟩) hHeld ?_ ?_
           rotate_left
           ·rintro w' ⟨s0, s1, s2, s3, s4, s5, s6, s7, s8, s9, s10, s11, s12, s13, s14, s15, s16, s17, s18, s19⟩
            go_simp
            with_reducible rfl
           rotate_left
           ·simp only [Act.put, List.setIfInBounds_toArray, List.set_cons_zero, List.set_cons_succ, i64_w, i32_w]
            rfl
           refine take_ (i := 10) (N := some 117) (v := ?_) (a' := ?_) pointTurnsMask33 rfl rfl (take_ofW HT_.out HW_.out (by kernel_rfl)) (fun _ _ _ h => h) (Or.inl ⟨by rfl, ?_⟩) hHeld ?_ ?_
           rotate_left
           ·rintro w' ⟨s0, s1, s2, s3, s4, s5, s6, s7, s8, s9, s10, s11, s12, s13, s14, s15, s16, s17, s18, s19⟩
            go_simp
            with_reducible rfl
           rotate_left
           ·simp only [Act.put, List.setIfInBounds_toArray, List.set_cons_zero, List.set_cons_succ, i64_w, i32_w]
            rfl
           refine one_ (i := 5) (N := some 112) pointTurnsMask36 rfl rfl (one_of HT_.out (by kernel_rfl)) (by decide) (fun K hK => ?_)
           refine goes_ Try.func22 (by kernel_rfl) rfl #[.int .i64 ((rd_T26 l0 x3_1).f0), .int .i64 1073741824] (by rfl) rfl rfl (by (try simp only [List.map_toArray, List.map_cons, List.map_nil]); first | done | rfl | (simp only [List.length_drop, List.length_take]; rfl)) ?_
           with_reducible refine (arraslaw0_Within.calls ((rd_T26 l0 x3_1).f0) 1073741824 t245 _ A40.out).mono ?_
           rintro e w' ⟨rfl, ⟨nd, rfl⟩⟩
           refine ⟨_, rfl, ?_⟩
           refine hK.out _ _ ⟨((HB.out.cell (World.block_lt_of_cell? w _ hw244_0)).trans hw244_0), ((HB.out.cell (World.block_lt_of_cell? w _ hw244_1)).trans hw244_1), ((HB.out.cell (World.block_lt_of_cell? w _ hw244_2)).trans hw244_2), ((HB.out.cell (World.block_lt_of_cell? w _ hw244_3)).trans hw244_3), ((HB.out.cell (World.block_lt_of_cell? w _ hw244_4)).trans hw244_4), ((HB.out.cell (World.block_lt_of_cell? w _ hw244_5)).trans hw244_5), ((HB.out.cell (World.block_lt_of_cell? w _ hw244_6)).trans hw244_6), ((HB.out.cell (World.block_lt_of_cell? w _ hw244_7)).trans hw244_7), ((HB.out.cell (World.block_lt_of_cell? w _ hw244_8)).trans hw244_8), ((HB.out.cell (World.block_lt_of_cell? w _ hw244_9)).trans hw244_9), ((HB.out.cell (World.block_lt_of_cell? w _ hw246_0)).trans hw246_0), ((HB.out.cell (World.block_lt_of_cell? w _ hw246_1)).trans hw246_1), ((HB.out.cell (World.block_lt_of_cell? w _ hw246_2)).trans hw246_2), ((HB.out.cell (World.block_lt_of_cell? w _ hw246_3)).trans hw246_3), ((HB.out.cell (World.block_lt_of_cell? w _ hw246_4)).trans hw246_4), ((HB.out.cell (World.block_lt_of_cell? w _ hw246_5)).trans hw246_5), ((HB.out.cell (World.block_lt_of_cell? w _ hw246_6)).trans hw246_6), ((HB.out.cell (World.block_lt_of_cell? w _ hw246_7)).trans hw246_7), ((HB.out.cell (World.block_lt_of_cell? w _ hw246_8)).trans hw246_8), ((HB.out.cell (World.block_lt_of_cell? w _ hw246_9)).trans hw246_9)⟩ (fun hHeld => ?_)
           clear hK K
           refine norm_ (a' := ?_) ?_ ?_
           rotate_left
           ·show Act.put _ (some 112) _ = _
            simp only [Act.put, List.setIfInBounds_toArray, List.set_cons_zero, List.set_cons_succ, i64_w, i32_w]
            rfl
           refine one_ (i := 11) (N := some 118) pointTurnsMask38 rfl rfl (one_of HT_.out (by kernel_rfl)) (by decide) (fun K hK => ?_)
           refine goes_ Try.func22 (by kernel_rfl) rfl #[.int .i64 ((rd_T26 l0 x3_1).f1), .int .i64 1073741824] (by rfl) rfl rfl (by (try simp only [List.map_toArray, List.map_cons, List.map_nil]); first | done | rfl | (simp only [List.length_drop, List.length_take]; rfl)) ?_
           with_reducible refine (arraslaw0_Within.calls ((rd_T26 l0 x3_1).f1) 1073741824 t247 _ A41.out).mono ?_
           rintro e w' ⟨rfl, ⟨nd, rfl⟩⟩
           refine ⟨_, rfl, ?_⟩
           refine hK.out _ _ ⟨((HB.out.cell (World.block_lt_of_cell? w _ hw244_0)).trans hw244_0), ((HB.out.cell (World.block_lt_of_cell? w _ hw244_1)).trans hw244_1), ((HB.out.cell (World.block_lt_of_cell? w _ hw244_2)).trans hw244_2), ((HB.out.cell (World.block_lt_of_cell? w _ hw244_3)).trans hw244_3), ((HB.out.cell (World.block_lt_of_cell? w _ hw244_4)).trans hw244_4), ((HB.out.cell (World.block_lt_of_cell? w _ hw244_5)).trans hw244_5), ((HB.out.cell (World.block_lt_of_cell? w _ hw244_6)).trans hw244_6), ((HB.out.cell (World.block_lt_of_cell? w _ hw244_7)).trans hw244_7), ((HB.out.cell (World.block_lt_of_cell? w _ hw244_8)).trans hw244_8), ((HB.out.cell (World.block_lt_of_cell? w _ hw244_9)).trans hw244_9), ((HB.out.cell (World.block_lt_of_cell? w _ hw246_0)).trans hw246_0), ((HB.out.cell (World.block_lt_of_cell? w _ hw246_1)).trans hw246_1), ((HB.out.cell (World.block_lt_of_cell? w _ hw246_2)).trans hw246_2), ((HB.out.cell (World.block_lt_of_cell? w _ hw246_3)).trans hw246_3), ((HB.out.cell (World.block_lt_of_cell? w _ hw246_4)).trans hw246_4), ((HB.out.cell (World.block_lt_of_cell? w _ hw246_5)).trans hw246_5), ((HB.out.cell (World.block_lt_of_cell? w _ hw246_6)).trans hw246_6), ((HB.out.cell (World.block_lt_of_cell? w _ hw246_7)).trans hw246_7), ((HB.out.cell (World.block_lt_of_cell? w _ hw246_8)).trans hw246_8), ((HB.out.cell (World.block_lt_of_cell? w _ hw246_9)).trans hw246_9)⟩ (fun hHeld => ?_)
           clear hK K
           refine norm_ (a' := ?_) ?_ ?_
           rotate_left
           ·show Act.put _ (some 118) _ = _
            simp only [Act.put, List.setIfInBounds_toArray, List.set_cons_zero, List.set_cons_succ, i64_w, i32_w]
            rfl
           refine one_ (i := 12) (N := some 119) pointTurnsMask40 rfl rfl (one_of HT_.out (by kernel_rfl)) (by decide) (fun K hK => ?_)
           refine goes_ Try.func10 (by kernel_rfl) rfl #[.int .i64 t245, .int .i64 t247] (by rfl) rfl rfl (by (try simp only [List.map_toArray, List.map_cons, List.map_nil]); first | done | rfl | (simp only [List.length_drop, List.length_take]; rfl)) ?_
           with_reducible refine (point_Of.calls t245 t247 t248 t249 _ A42.out).mono ?_
           rintro e w' ⟨rfl, ⟨nd, rfl⟩⟩
           refine ⟨_, rfl, ?_⟩
           refine hK.out _ _ ⟨((HB.out.cell (World.block_lt_of_cell? w _ hw244_0)).trans hw244_0), ((HB.out.cell (World.block_lt_of_cell? w _ hw244_1)).trans hw244_1), ((HB.out.cell (World.block_lt_of_cell? w _ hw244_2)).trans hw244_2), ((HB.out.cell (World.block_lt_of_cell? w _ hw244_3)).trans hw244_3), ((HB.out.cell (World.block_lt_of_cell? w _ hw244_4)).trans hw244_4), ((HB.out.cell (World.block_lt_of_cell? w _ hw244_5)).trans hw244_5), ((HB.out.cell (World.block_lt_of_cell? w _ hw244_6)).trans hw244_6), ((HB.out.cell (World.block_lt_of_cell? w _ hw244_7)).trans hw244_7), ((HB.out.cell (World.block_lt_of_cell? w _ hw244_8)).trans hw244_8), ((HB.out.cell (World.block_lt_of_cell? w _ hw244_9)).trans hw244_9), ((HB.out.cell (World.block_lt_of_cell? w _ hw246_0)).trans hw246_0), ((HB.out.cell (World.block_lt_of_cell? w _ hw246_1)).trans hw246_1), ((HB.out.cell (World.block_lt_of_cell? w _ hw246_2)).trans hw246_2), ((HB.out.cell (World.block_lt_of_cell? w _ hw246_3)).trans hw246_3), ((HB.out.cell (World.block_lt_of_cell? w _ hw246_4)).trans hw246_4), ((HB.out.cell (World.block_lt_of_cell? w _ hw246_5)).trans hw246_5), ((HB.out.cell (World.block_lt_of_cell? w _ hw246_6)).trans hw246_6), ((HB.out.cell (World.block_lt_of_cell? w _ hw246_7)).trans hw246_7), ((HB.out.cell (World.block_lt_of_cell? w _ hw246_8)).trans hw246_8), ((HB.out.cell (World.block_lt_of_cell? w _ hw246_9)).trans hw246_9)⟩ (fun hHeld => ?_)
           clear hK K
           refine norm_ (a' := ?_) ?_ ?_
           rotate_left
           ·show Act.put _ (some 119) _ = _
            simp only [Act.put, List.setIfInBounds_toArray, List.set_cons_zero, List.set_cons_succ, i64_w, i32_w]
            rfl
           refine pure_ (i := 13) (N := some 106) (v := ?_) (a' := ?_) pointTurnsMask43 rfl rfl (any_of HT_.out (by kernel_rfl)) (fun _ _ _ h => h) (Or.inl ⟨by rfl, ?_⟩) ?_ ?_
           rotate_left
           ·intro w'; go_simp
            with_reducible rfl
           rotate_left
           ·simp only [Act.put, List.setIfInBounds_toArray, List.set_cons_zero, List.set_cons_succ, i64_w, i32_w]
            rfl
           refine pure_ (i := 14) (N := some 120) (v := ?_) (a' := ?_) pointTurnsMask46 rfl rfl (any_of HT_.out (by kernel_rfl)) (fun _ _ _ h => h) (Or.inl ⟨by rfl, ?_⟩) ?_ ?_
           rotate_left
           ·intro w'; go_simp
            with_reducible rfl
           rotate_left
           ·simp only [Act.put, List.setIfInBounds_toArray, List.set_cons_zero, List.set_cons_succ, i64_w, i32_w]
            rfl
           refine pure_ (i := 15) (N := some 121) (v := ?_) (a' := ?_) pointTurnsMask49 rfl rfl (any_of HT_.out (by kernel_rfl)) (fun _ _ _ h => h) (Or.inl ⟨by rfl, ?_⟩) ?_ ?_
           rotate_left
           ·intro w'; go_simp
            with_reducible rfl
           rotate_left
           ·simp only [Act.put, List.setIfInBounds_toArray, List.set_cons_zero, List.set_cons_succ, i64_w, i32_w]
            rfl
           refine pure_ (i := 16) (N := some 13) (v := ?_) (a' := ?_) pointTurnsMask51 rfl rfl (any_of HT_.out (by kernel_rfl)) (fun _ _ _ h => h) (Or.inl ⟨by rfl, ?_⟩) ?_ ?_
           rotate_left
           ·intro w'; go_simp
            with_reducible rfl
           rotate_left
           ·simp only [Act.put, List.setIfInBounds_toArray, List.set_cons_zero, List.set_cons_succ, i64_w, i32_w]
            rfl
           refine pure_ (i := 17) (N := some 14) (v := ?_) (a' := ?_) pointTurnsMask54 rfl rfl (any_of HT_.out (by kernel_rfl)) (fun _ _ _ h => h) (Or.inl ⟨by rfl, ?_⟩) ?_ ?_
           rotate_left
           ·intro w'; go_simp
            with_reducible rfl
           rotate_left
           ·simp only [Act.put, List.setIfInBounds_toArray, List.set_cons_zero, List.set_cons_succ, i64_w, i32_w]
            rfl
           refine done_ (done_of HT_.out (by kernel_rfl)) ?_
           try go_wp2
           (try (rw [drewN_self w49]; generalize hq_ : World.drewN w49 _ = w49; have n0_ : Aside0 (Below w.heap.size w w49) := ⟨by rw [← hq_]; exact (by repeat (first | (with_reducible first | exact HB.out | apply below_alloc | apply pw_below_drewN | apply below_drew1) | exact HB.out))⟩; clear HB hq_; have HB := n0_; clear n0_))
           have n0_ := Aside0.mk (below_drew1 HB.out); clear HB; have HB := n0_; clear n0_; have p250 : 0 ≤ (x3_1 : Int) := of_decide_eq_true (by first | (with_reducible assumption) | assumption); have q250 : x3_1 < (l0.length : Int) := of_decide_eq_true (by first | (with_reducible assumption) | assumption)
           obtain ⟨ad250, e250, hx250_0, hx250_1, hx250_2, hx250_3, hx250_4, hx250_5, hx250_6, hx250_7, hx250_8, hx250_9⟩ := at_T26 HR0.out x3_1 p250 q250
           have hw250_9 := hx250_9; have hw250_8 := hx250_8; have hw250_7 := hx250_7; have hw250_6 := hx250_6; have hw250_5 := hx250_5; have hw250_4 := hx250_4; have hw250_3 := hx250_3; have hw250_2 := hx250_2; have hw250_1 := hx250_1; have hw250_0 := hx250_0; obtain rfl : ad244 = ad250 := (by injection e250)
           replace hx250_0 := (HB.out.cell (World.block_lt_of_cell? w _ hx250_0)).trans hx250_0
           replace hx250_1 := (HB.out.cell (World.block_lt_of_cell? w _ hx250_1)).trans hx250_1
           replace hx250_2 := (HB.out.cell (World.block_lt_of_cell? w _ hx250_2)).trans hx250_2
           replace hx250_3 := (HB.out.cell (World.block_lt_of_cell? w _ hx250_3)).trans hx250_3
           replace hx250_4 := (HB.out.cell (World.block_lt_of_cell? w _ hx250_4)).trans hx250_4
           replace hx250_5 := (HB.out.cell (World.block_lt_of_cell? w _ hx250_5)).trans hx250_5
           replace hx250_6 := (HB.out.cell (World.block_lt_of_cell? w _ hx250_6)).trans hx250_6
           replace hx250_7 := (HB.out.cell (World.block_lt_of_cell? w _ hx250_7)).trans hx250_7
           replace hx250_8 := (HB.out.cell (World.block_lt_of_cell? w _ hx250_8)).trans hx250_8
           replace hx250_9 := (HB.out.cell (World.block_lt_of_cell? w _ hx250_9)).trans hx250_9
           replace p250 := eq_true p250; replace q250 := eq_true q250; have p252 : 0 ≤ (x3_1 : Int) := of_decide_eq_true (by first | (with_reducible assumption) | assumption); have q252 : x3_1 < (l0.length : Int) := of_decide_eq_true (by first | (with_reducible assumption) | assumption)
           obtain ⟨ad252, e252, hx252_0, hx252_1, hx252_2, hx252_3, hx252_4, hx252_5, hx252_6, hx252_7, hx252_8, hx252_9⟩ := at_T26 HR0.out x3_1 p252 q252
           have hw252_9 := hx252_9; have hw252_8 := hx252_8; have hw252_7 := hx252_7; have hw252_6 := hx252_6; have hw252_5 := hx252_5; have hw252_4 := hx252_4; have hw252_3 := hx252_3; have hw252_2 := hx252_2; have hw252_1 := hx252_1; have hw252_0 := hx252_0; obtain rfl : ad244 = ad252 := (by injection e252)
           replace hx252_0 := (HB.out.cell (World.block_lt_of_cell? w _ hx252_0)).trans hx252_0
           replace hx252_1 := (HB.out.cell (World.block_lt_of_cell? w _ hx252_1)).trans hx252_1
           replace hx252_2 := (HB.out.cell (World.block_lt_of_cell? w _ hx252_2)).trans hx252_2
           replace hx252_3 := (HB.out.cell (World.block_lt_of_cell? w _ hx252_3)).trans hx252_3
           replace hx252_4 := (HB.out.cell (World.block_lt_of_cell? w _ hx252_4)).trans hx252_4
           replace hx252_5 := (HB.out.cell (World.block_lt_of_cell? w _ hx252_5)).trans hx252_5
           replace hx252_6 := (HB.out.cell (World.block_lt_of_cell? w _ hx252_6)).trans hx252_6
           replace hx252_7 := (HB.out.cell (World.block_lt_of_cell? w _ hx252_7)).trans hx252_7
           replace hx252_8 := (HB.out.cell (World.block_lt_of_cell? w _ hx252_8)).trans hx252_8
           replace hx252_9 := (HB.out.cell (World.block_lt_of_cell? w _ hx252_9)).trans hx252_9
           replace p252 := eq_true p252; replace q252 := eq_true q252
           refine start_ (n := 19) (S := fun w' => w'.cell? (ad244.add ((x3_1).toNat * 10)) = some (.int .i64 ((rd_T26 l0 x3_1).f0)) ∧ w'.cell? ⟨(ad244.add ((x3_1).toNat * 10)).block, (ad244.add ((x3_1).toNat * 10)).off + 1, none⟩ = some (.int .i64 ((rd_T26 l0 x3_1).f1)) ∧ w'.cell? ⟨(ad244.add ((x3_1).toNat * 10)).block, (ad244.add ((x3_1).toNat * 10)).off + 2, none⟩ = some (.float .f64 ((rd_T26 l0 x3_1).f2.f0)) ∧ w'.cell? ⟨(ad244.add ((x3_1).toNat * 10)).block, (ad244.add ((x3_1).toNat * 10)).off + 3, none⟩ = some (.float .f64 ((rd_T26 l0 x3_1).f2.f1)) ∧ w'.cell? ⟨(ad244.add ((x3_1).toNat * 10)).block, (ad244.add ((x3_1).toNat * 10)).off + 4, none⟩ = some (.float .f64 ((rd_T26 l0 x3_1).f2.f2)) ∧ w'.cell? ⟨(ad244.add ((x3_1).toNat * 10)).block, (ad244.add ((x3_1).toNat * 10)).off + 5, none⟩ = some (.float .f64 ((rd_T26 l0 x3_1).f2.f3)) ∧ w'.cell? ⟨(ad244.add ((x3_1).toNat * 10)).block, (ad244.add ((x3_1).toNat * 10)).off + 6, none⟩ = some (.float .f64 ((rd_T26 l0 x3_1).f2.f4)) ∧ w'.cell? ⟨(ad244.add ((x3_1).toNat * 10)).block, (ad244.add ((x3_1).toNat * 10)).off + 7, none⟩ = some (.float .f64 ((rd_T26 l0 x3_1).f2.f5)) ∧ w'.cell? ⟨(ad244.add ((x3_1).toNat * 10)).block, (ad244.add ((x3_1).toNat * 10)).off + 8, none⟩ = some (.float .f64 ((rd_T26 l0 x3_1).f2.f6)) ∧ w'.cell? ⟨(ad244.add ((x3_1).toNat * 10)).block, (ad244.add ((x3_1).toNat * 10)).off + 9, none⟩ = some (.float .f64 ((rd_T26 l0 x3_1).f2.f7)) ∧ w'.cell? (ad244.add ((x3_1).toNat * 10)) = some (.int .i64 ((rd_T26 l0 x3_1).f0)) ∧ w'.cell? ⟨(ad244.add ((x3_1).toNat * 10)).block, (ad244.add ((x3_1).toNat * 10)).off + 1, none⟩ = some (.int .i64 ((rd_T26 l0 x3_1).f1)) ∧ w'.cell? ⟨(ad244.add ((x3_1).toNat * 10)).block, (ad244.add ((x3_1).toNat * 10)).off + 2, none⟩ = some (.float .f64 ((rd_T26 l0 x3_1).f2.f0)) ∧ w'.cell? ⟨(ad244.add ((x3_1).toNat * 10)).block, (ad244.add ((x3_1).toNat * 10)).off + 3, none⟩ = some (.float .f64 ((rd_T26 l0 x3_1).f2.f1)) ∧ w'.cell? ⟨(ad244.add ((x3_1).toNat * 10)).block, (ad244.add ((x3_1).toNat * 10)).off + 4, none⟩ = some (.float .f64 ((rd_T26 l0 x3_1).f2.f2)) ∧ w'.cell? ⟨(ad244.add ((x3_1).toNat * 10)).block, (ad244.add ((x3_1).toNat * 10)).off + 5, none⟩ = some (.float .f64 ((rd_T26 l0 x3_1).f2.f3)) ∧ w'.cell? ⟨(ad244.add ((x3_1).toNat * 10)).block, (ad244.add ((x3_1).toNat * 10)).off + 6, none⟩ = some (.float .f64 ((rd_T26 l0 x3_1).f2.f4)) ∧ w'.cell? ⟨(ad244.add ((x3_1).toNat * 10)).block, (ad244.add ((x3_1).toNat * 10)).off + 7, none⟩ = some (.float .f64 ((rd_T26 l0 x3_1).f2.f5)) ∧ w'.cell? ⟨(ad244.add ((x3_1).toNat * 10)).block, (ad244.add ((x3_1).toNat * 10)).off + 8, none⟩ = some (.float .f64 ((rd_T26 l0 x3_1).f2.f6)) ∧ w'.cell? ⟨(ad244.add ((x3_1).toNat * 10)).block, (ad244.add ((x3_1).toNat * 10)).off + 9, none⟩ = some (.float .f64 ((rd_T26 l0 x3_1).f2.f7))) (ds := []) pointTurnsMask0 (by kernel_rfl) rfl rfl ⟨((HB.out.cell (World.block_lt_of_cell? w _ hw250_0)).trans hw250_0), ((HB.out.cell (World.block_lt_of_cell? w _ hw250_1)).trans hw250_1), ((HB.out.cell (World.block_lt_of_cell? w _ hw250_2)).trans hw250_2), ((HB.out.cell (World.block_lt_of_cell? w _ hw250_3)).trans hw250_3), ((HB.out.cell (World.block_lt_of_cell? w _ hw250_4)).trans hw250_4), ((HB.out.cell (World.block_lt_of_cell? w _ hw250_5)).trans hw250_5), ((HB.out.cell (World.block_lt_of_cell? w _ hw250_6)).trans hw250_6), ((HB.out.cell (World.block_lt_of_cell? w _ hw250_7)).trans hw250_7), ((HB.out.cell (World.block_lt_of_cell? w _ hw250_8)).trans hw250_8), ((HB.out.cell (World.block_lt_of_cell? w _ hw250_9)).trans hw250_9), ((HB.out.cell (World.block_lt_of_cell? w _ hw252_0)).trans hw252_0), ((HB.out.cell (World.block_lt_of_cell? w _ hw252_1)).trans hw252_1), ((HB.out.cell (World.block_lt_of_cell? w _ hw252_2)).trans hw252_2), ((HB.out.cell (World.block_lt_of_cell? w _ hw252_3)).trans hw252_3), ((HB.out.cell (World.block_lt_of_cell? w _ hw252_4)).trans hw252_4), ((HB.out.cell (World.block_lt_of_cell? w _ hw252_5)).trans hw252_5), ((HB.out.cell (World.block_lt_of_cell? w _ hw252_6)).trans hw252_6), ((HB.out.cell (World.block_lt_of_cell? w _ hw252_7)).trans hw252_7), ((HB.out.cell (World.block_lt_of_cell? w _ hw252_8)).trans hw252_8), ((HB.out.cell (World.block_lt_of_cell? w _ hw252_9)).trans hw252_9)⟩ (fun hHeld => ?_); refine with_tabW arraslaw3_PointTurns.tab18 arraslaw3_PointTurns.bits18 (fun HT_ HW_ => ?_)
           generalize w49.drew = w50 at HB hx250_0 hx250_1 hx250_2 hx250_3 hx250_4 hx250_5 hx250_6 hx250_7 hx250_8 hx250_9 hx252_0 hx252_1 hx252_2 hx252_3 hx252_4 hx252_5 hx252_6 hx252_7 hx252_8 hx252_9 hHeld ⊢
           refine pure_ (i := 0) (N := some 123) (v := ?_) (a' := ?_) pointTurnsMask3 rfl rfl (any_of HT_.out (by kernel_rfl)) (fun _ _ _ h => h) (Or.inl ⟨by rfl, ?_⟩) ?_ ?_
           rotate_left
           ·intro w'; go_simp
            with_reducible rfl
           rotate_left
           ·simp only [Act.put, List.setIfInBounds_toArray, List.set_cons_zero, List.set_cons_succ, i64_w, i32_w]
            rfl
           refine pure_ (i := 1) (N := some 124) (v := ?_) (a' := ?_) pointTurnsMask6 rfl rfl (any_of HT_.out (by kernel_rfl)) (fun _ _ _ h => h) (Or.inl ⟨by rfl, ?_⟩) ?_ ?_
           rotate_left
           ·intro w'; go_simp
            with_reducible rfl
           rotate_left
           ·simp only [Act.put, List.setIfInBounds_toArray, List.set_cons_zero, List.set_cons_succ, i64_w, i32_w]
            rfl
           refine pure_ (i := 2) (N := some 125) (v := ?_) (a' := ?_) pointTurnsMask9 rfl rfl (any_of HT_.out (by kernel_rfl)) (fun _ _ _ h => h) (Or.inl ⟨by rfl, ?_⟩) ?_ ?_
           rotate_left
           ·intro w'; go_simp
            with_reducible rfl
           rotate_left
           ·simp only [Act.put, List.setIfInBounds_toArray, List.set_cons_zero, List.set_cons_succ, i64_w, i32_w]
            rfl
           refine pure_ (i := 3) (N := some 126) (v := ?_) (a' := ?_) pointTurnsMask19 rfl rfl (any_of HT_.out (by kernel_rfl)) (fun _ _ _ h => h) (Or.inl ⟨by rfl, ?_⟩) ?_ ?_
           rotate_left
           ·intro w'; go_simp
            with_reducible rfl
           rotate_left
           ·simp only [Act.put, List.setIfInBounds_toArray, List.set_cons_zero, List.set_cons_succ, i64_w, i32_w]
            rfl
           refine pure_ (i := 7) (N := some 130) (v := ?_) (a' := ?_) pointTurnsMask21 rfl rfl (any_of HT_.out (by kernel_rfl)) (fun _ _ _ h => h) (Or.inl ⟨by rfl, ?_⟩) ?_ ?_
           rotate_left
           ·intro w'; go_simp
            with_reducible rfl
           rotate_left
           ·simp only [Act.put, List.setIfInBounds_toArray, List.set_cons_zero, List.set_cons_succ, i64_w, i32_w]
            rfl
           refine pure_ (i := 8) (N := some 131) (v := ?_) (a' := ?_) pointTurnsMask22 rfl rfl (any_of HT_.out (by kernel_rfl)) (fun _ _ _ h => h) (Or.inl ⟨by rfl, ?_⟩) ?_ ?_
           rotate_left
           ·intro w'; go_simp
            with_reducible rfl
           rotate_left
           ·simp only [Act.put, List.setIfInBounds_toArray, List.set_cons_zero, List.set_cons_succ, i64_w, i32_w]
            rfl
           refine pure_ (i := 9) (N := some 132) (v := ?_) (a' := ?_) pointTurnsMask23 rfl rfl (any_of HT_.out (by kernel_rfl)) (fun _ _ _ h => h) (Or.inl ⟨by rfl, ?_⟩) ?_ ?_
           rotate_left
           ·intro w'; go_simp
            with_reducible rfl
           rotate_left
           ·simp only [Act.put, List.setIfInBounds_toArray, List.set_cons_zero, List.set_cons_succ, i64_w, i32_w]
            rfl
           refine pure_ (i := 10) (N := some 133) (v := ?_) (a' := ?_) pointTurnsMask24 rfl rfl (any_of HT_.out (by kernel_rfl)) (fun _ _ _ h => h) (Or.inl ⟨by rfl, ?_⟩) ?_ ?_
           rotate_left
           ·intro w'; go_simp
            with_reducible rfl
           rotate_left
           ·simp only [Act.put, List.setIfInBounds_toArray, List.set_cons_zero, List.set_cons_succ, i64_w, i32_w]
            rfl
           refine take_ (i := 4) (N := some 127) (v := ?_) (a' := ?_) pointTurnsMask29 rfl rfl (take_ofW HT_.out HW_.out (by kernel_rfl)) (fun _ _ _ h => h) (Or.inl ⟨by rfl, ?_⟩) hHeld ?_ ?_
           rotate_left
           ·rintro w' ⟨s0, s1, s2, s3, s4, s5, s6, s7, s8, s9, s10, s11, s12, s13, s14, s15, s16, s17, s18, s19⟩
            go_simp
            with_reducible rfl
           rotate_left
           ·simp only [Act.put, List.setIfInBounds_toArray, List.set_cons_zero, List.set_cons_succ, i64_w, i32_w]
            rfl
           refine take_ (i := 11) (N := some 134) (v := ?_) (a' := ?_) pointTurnsMask30 rfl rfl (take_ofW HT_.out HW_.out (by kernel_rfl)) (fun _ _ _ h => h) (Or.inl ⟨by rfl, ?_⟩) hHeld ?_ ?_
           rotate_left
           ·rintro w' ⟨s0, s1, s2, s3, s4, s5, s6, s7, s8, s9, s10, s11, s12, s13, s14, s15, s16, s17, s18, s19⟩
            go_simp
            with_reducible rfl
           rotate_left
           ·simp only [Act.put, List.setIfInBounds_toArray, List.set_cons_zero, List.set_cons_succ, i64_w, i32_w]
            rfl
           refine one_ (i := 5) (N := some 128) pointTurnsMask35 rfl rfl (one_of HT_.out (by kernel_rfl)) (by decide) (fun K hK => ?_)
           refine goes_ Try.func22 (by kernel_rfl) rfl #[.int .i64 ((rd_T26 l0 x3_1).f1), .int .i64 1073741824] (by rfl) rfl rfl (by (try simp only [List.map_toArray, List.map_cons, List.map_nil]); first | done | rfl | (simp only [List.length_drop, List.length_take]; rfl)) ?_
           with_reducible refine (arraslaw0_Within.calls ((rd_T26 l0 x3_1).f1) 1073741824 t251 _ A43.out).mono ?_
           rintro e w' ⟨rfl, ⟨nd, rfl⟩⟩
           refine ⟨_, rfl, ?_⟩
           refine hK.out _ _ ⟨((HB.out.cell (World.block_lt_of_cell? w _ hw250_0)).trans hw250_0), ((HB.out.cell (World.block_lt_of_cell? w _ hw250_1)).trans hw250_1), ((HB.out.cell (World.block_lt_of_cell? w _ hw250_2)).trans hw250_2), ((HB.out.cell (World.block_lt_of_cell? w _ hw250_3)).trans hw250_3), ((HB.out.cell (World.block_lt_of_cell? w _ hw250_4)).trans hw250_4), ((HB.out.cell (World.block_lt_of_cell? w _ hw250_5)).trans hw250_5), ((HB.out.cell (World.block_lt_of_cell? w _ hw250_6)).trans hw250_6), ((HB.out.cell (World.block_lt_of_cell? w _ hw250_7)).trans hw250_7), ((HB.out.cell (World.block_lt_of_cell? w _ hw250_8)).trans hw250_8), ((HB.out.cell (World.block_lt_of_cell? w _ hw250_9)).trans hw250_9), ((HB.out.cell (World.block_lt_of_cell? w _ hw252_0)).trans hw252_0), ((HB.out.cell (World.block_lt_of_cell? w _ hw252_1)).trans hw252_1), ((HB.out.cell (World.block_lt_of_cell? w _ hw252_2)).trans hw252_2), ((HB.out.cell (World.block_lt_of_cell? w _ hw252_3)).trans hw252_3), ((HB.out.cell (World.block_lt_of_cell? w _ hw252_4)).trans hw252_4), ((HB.out.cell (World.block_lt_of_cell? w _ hw252_5)).trans hw252_5), ((HB.out.cell (World.block_lt_of_cell? w _ hw252_6)).trans hw252_6), ((HB.out.cell (World.block_lt_of_cell? w _ hw252_7)).trans hw252_7), ((HB.out.cell (World.block_lt_of_cell? w _ hw252_8)).trans hw252_8), ((HB.out.cell (World.block_lt_of_cell? w _ hw252_9)).trans hw252_9)⟩ (fun hHeld => ?_)
           clear hK K
           refine norm_ (a' := ?_) ?_ ?_
           rotate_left
           ·show Act.put _ (some 128) _ = _
            simp only [Act.put, List.setIfInBounds_toArray, List.set_cons_zero, List.set_cons_succ, i64_w, i32_w]
            rfl
           refine pure_ (i := 6) (N := some 129) (v := ?_) (a' := ?_) pointTurnsMask37 rfl rfl (any_of HT_.out (by kernel_rfl)) (fun _ _ _ h => h) (Or.inl ⟨by rfl, ?_⟩) ?_ ?_
           rotate_left
           ·intro w'; go_simp
            with_reducible rfl
           rotate_left
           ·simp only [Act.put, List.setIfInBounds_toArray, List.set_cons_zero, List.set_cons_succ, i64_w, i32_w]
            rfl
           refine one_ (i := 12) (N := some 135) pointTurnsMask39 rfl rfl (one_of HT_.out (by kernel_rfl)) (by decide) (fun K hK => ?_)
           refine goes_ Try.func22 (by kernel_rfl) rfl #[.int .i64 ((rd_T26 l0 x3_1).f0), .int .i64 1073741824] (by rfl) rfl rfl (by (try simp only [List.map_toArray, List.map_cons, List.map_nil]); first | done | rfl | (simp only [List.length_drop, List.length_take]; rfl)) ?_
           with_reducible refine (arraslaw0_Within.calls ((rd_T26 l0 x3_1).f0) 1073741824 t253 _ A44.out).mono ?_
           rintro e w' ⟨rfl, ⟨nd, rfl⟩⟩
           refine ⟨_, rfl, ?_⟩
           refine hK.out _ _ ⟨((HB.out.cell (World.block_lt_of_cell? w _ hw250_0)).trans hw250_0), ((HB.out.cell (World.block_lt_of_cell? w _ hw250_1)).trans hw250_1), ((HB.out.cell (World.block_lt_of_cell? w _ hw250_2)).trans hw250_2), ((HB.out.cell (World.block_lt_of_cell? w _ hw250_3)).trans hw250_3), ((HB.out.cell (World.block_lt_of_cell? w _ hw250_4)).trans hw250_4), ((HB.out.cell (World.block_lt_of_cell? w _ hw250_5)).trans hw250_5), ((HB.out.cell (World.block_lt_of_cell? w _ hw250_6)).trans hw250_6), ((HB.out.cell (World.block_lt_of_cell? w _ hw250_7)).trans hw250_7), ((HB.out.cell (World.block_lt_of_cell? w _ hw250_8)).trans hw250_8), ((HB.out.cell (World.block_lt_of_cell? w _ hw250_9)).trans hw250_9), ((HB.out.cell (World.block_lt_of_cell? w _ hw252_0)).trans hw252_0), ((HB.out.cell (World.block_lt_of_cell? w _ hw252_1)).trans hw252_1), ((HB.out.cell (World.block_lt_of_cell? w _ hw252_2)).trans hw252_2), ((HB.out.cell (World.block_lt_of_cell? w _ hw252_3)).trans hw252_3), ((HB.out.cell (World.block_lt_of_cell? w _ hw252_4)).trans hw252_4), ((HB.out.cell (World.block_lt_of_cell? w _ hw252_5)).trans hw252_5), ((HB.out.cell (World.block_lt_of_cell? w _ hw252_6)).trans hw252_6), ((HB.out.cell (World.block_lt_of_cell? w _ hw252_7)).trans hw252_7), ((HB.out.cell (World.block_lt_of_cell? w _ hw252_8)).trans hw252_8), ((HB.out.cell (World.block_lt_of_cell? w _ hw252_9)).trans hw252_9)⟩ (fun hHeld => ?_)
           clear hK K
           refine norm_ (a' := ?_) ?_ ?_
           rotate_left
           ·show Act.put _ (some 135) _ = _
            simp only [Act.put, List.setIfInBounds_toArray, List.set_cons_zero, List.set_cons_succ, i64_w, i32_w]
            rfl
           refine one_ (i := 13) (N := some 136) pointTurnsMask42 rfl rfl (one_of HT_.out (by kernel_rfl)) (by decide) (fun K hK => ?_)
           refine goes_ Try.func10 (by kernel_rfl) rfl #[.int .i64 (wrap64 (-t251)), .int .i64 t253] (by rfl) rfl rfl (by (try simp only [List.map_toArray, List.map_cons, List.map_nil]); first | done | rfl | (simp only [List.length_drop, List.length_take]; rfl)) ?_
           with_reducible refine (point_Of.calls (wrap64 (-t251)) t253 t254 t255 _ A45.out).mono ?_
           rintro e w' ⟨rfl, ⟨nd, rfl⟩⟩
           refine ⟨_, rfl, ?_⟩
           refine hK.out _ _ ⟨((HB.out.cell (World.block_lt_of_cell? w _ hw250_0)).trans hw250_0), ((HB.out.cell (World.block_lt_of_cell? w _ hw250_1)).trans hw250_1), ((HB.out.cell (World.block_lt_of_cell? w _ hw250_2)).trans hw250_2), ((HB.out.cell (World.block_lt_of_cell? w _ hw250_3)).trans hw250_3), ((HB.out.cell (World.block_lt_of_cell? w _ hw250_4)).trans hw250_4), ((HB.out.cell (World.block_lt_of_cell? w _ hw250_5)).trans hw250_5), ((HB.out.cell (World.block_lt_of_cell? w _ hw250_6)).trans hw250_6), ((HB.out.cell (World.block_lt_of_cell? w _ hw250_7)).trans hw250_7), ((HB.out.cell (World.block_lt_of_cell? w _ hw250_8)).trans hw250_8), ((HB.out.cell (World.block_lt_of_cell? w _ hw250_9)).trans hw250_9), ((HB.out.cell (World.block_lt_of_cell? w _ hw252_0)).trans hw252_0), ((HB.out.cell (World.block_lt_of_cell? w _ hw252_1)).trans hw252_1), ((HB.out.cell (World.block_lt_of_cell? w _ hw252_2)).trans hw252_2), ((HB.out.cell (World.block_lt_of_cell? w _ hw252_3)).trans hw252_3), ((HB.out.cell (World.block_lt_of_cell? w _ hw252_4)).trans hw252_4), ((HB.out.cell (World.block_lt_of_cell? w _ hw252_5)).trans hw252_5), ((HB.out.cell (World.block_lt_of_cell? w _ hw252_6)).trans hw252_6), ((HB.out.cell (World.block_lt_of_cell? w _ hw252_7)).trans hw252_7), ((HB.out.cell (World.block_lt_of_cell? w _ hw252_8)).trans hw252_8), ((HB.out.cell (World.block_lt_of_cell? w _ hw252_9)).trans hw252_9)⟩ (fun hHeld => ?_)
           clear hK K
           refine norm_ (a' := ?_) ?_ ?_
           rotate_left
           ·show Act.put _ (some 136) _ = _
            simp only [Act.put, List.setIfInBounds_toArray, List.set_cons_zero, List.set_cons_succ, i64_w, i32_w]
            rfl
           refine pure_ (i := 14) (N := some 122) (v := ?_) (a' := ?_) pointTurnsMask45 rfl rfl (any_of HT_.out (by kernel_rfl)) (fun _ _ _ h => h) (Or.inl ⟨by rfl, ?_⟩) ?_ ?_
           rotate_left
           ·intro w'; go_simp
            with_reducible rfl
           rotate_left
           ·simp only [Act.put, List.setIfInBounds_toArray, List.set_cons_zero, List.set_cons_succ, i64_w, i32_w]
            rfl
           refine pure_ (i := 15) (N := some 137) (v := ?_) (a' := ?_) pointTurnsMask48 rfl rfl (any_of HT_.out (by kernel_rfl)) (fun _ _ _ h => h) (Or.inl ⟨by rfl, ?_⟩) ?_ ?_
           rotate_left
           ·intro w'; go_simp
            with_reducible rfl
           rotate_left
           ·simp only [Act.put, List.setIfInBounds_toArray, List.set_cons_zero, List.set_cons_succ, i64_w, i32_w]
            rfl
           refine pure_ (i := 16) (N := some 138) (v := ?_) (a' := ?_) pointTurnsMask50 rfl rfl (any_of HT_.out (by kernel_rfl)) (fun _ _ _ h => h) (Or.inl ⟨by rfl, ?_⟩) ?_ ?_
           rotate_left
           ·intro w'; go_simp
            with_reducible rfl
           rotate_left
           ·simp only [Act.put, List.setIfInBounds_toArray, List.set_cons_zero, List.set_cons_succ, i64_w, i32_w]
            rfl
           refine pure_ (i := 17) (N := some 15) (v := ?_) (a' := ?_) pointTurnsMask52 rfl rfl (any_of HT_.out (by kernel_rfl)) (fun _ _ _ h => h) (Or.inl ⟨by rfl, ?_⟩) ?_ ?_
           rotate_left
           ·intro w'; go_simp
            with_reducible rfl
           rotate_left
           ·simp only [Act.put, List.setIfInBounds_toArray, List.set_cons_zero, List.set_cons_succ, i64_w, i32_w]
            rfl
           refine pure_ (i := 18) (N := some 16) (v := ?_) (a' := ?_) pointTurnsMask53 rfl rfl (any_of HT_.out (by kernel_rfl)) (fun _ _ _ h => h) (Or.inl ⟨by rfl, ?_⟩) ?_ ?_
           rotate_left
           ·intro w'; go_simp
            with_reducible rfl
           rotate_left
           ·simp only [Act.put, List.setIfInBounds_toArray, List.set_cons_zero, List.set_cons_succ, i64_w, i32_w]
            rfl
           refine done_ (done_of HT_.out (by kernel_rfl)) ?_
           go_upto_region 21 with (first | ((with_reducible refine gate_callee (f := 21) rfl ?_); refine goesL_ (some 142) rfl rfl Try.func21 (by kernel_rfl) rfl #[.complex .f64 t248.1 t248.2, .complex .f64 t254.1 t254.2] rfl (by (try simp only [List.map_toArray, List.map_cons, List.map_nil]); first | done | rfl | (simp only [List.length_drop, List.length_take]; rfl)) ?_; (with_reducible refine (point_Add.calls k3 t248 t254 t256 t257 _ A46.out).mono ?_); rintro e w51 ⟨rfl, hb⟩; refine ⟨_, rfl, ?_⟩; have n0_ := Aside0.mk (below_step (by repeat (first | (with_reducible first | exact HB.out | apply below_alloc | apply pw_below_drewN | apply below_drew1) | exact HB.out)) hb); clear HB; have HB := n0_; clear n0_; (try clear hb); (try clear hb2); (try clear hk); (try clear hi)) | ((with_reducible refine gate_callee (f := 23) rfl ?_); refine goesL_ (some 148) rfl rfl Try.func23 (by kernel_rfl) rfl #[.complex .f64 t256.1 t256.2, .complex .f64 t254.1 t254.2] rfl (by (try simp only [List.map_toArray, List.map_cons, List.map_nil]); first | done | rfl | (simp only [List.length_drop, List.length_take]; rfl)) ?_; (with_reducible refine (point_Sub.calls k3 t256 t254 t258 t259 _ A47.out).mono ?_); rintro e w52 ⟨rfl, hb⟩; refine ⟨_, rfl, ?_⟩; have n0_ := Aside0.mk (below_step (by repeat (first | (with_reducible first | exact HB.out | apply below_alloc | apply pw_below_drewN | apply below_drew1) | exact HB.out)) hb); clear HB; have HB := n0_; clear n0_; (try clear hb); (try clear hb2); (try clear hk); (try clear hi)))
           (try simp only [Act.put, List.setIfInBounds_toArray, List.set_cons_zero, List.set_cons_succ])
           go_cut [185] (fun v185 wc => ∃ (kq : Nat) (x185_47 : Bool), v185 = .bool x185_47 ∧ Aside0 (arraslaw3_PointTurns.j5 kq l0 x3_1 x185_47 = some r) ∧ Aside0 (kq ≤ k3) ∧ Aside0 (Below w.heap.size w wc))
           case first => as_aux_lemma =>
            have H := HC48.out
            clear HC48
            replace H := Option.bind_eq_some_iff.mp H
            obtain ⟨t260, A530, H⟩ := H
            replace H : (if t260 = 0 then ((arraslaw3_num.f t255).bind fun t261 => (if t261 = 0 then ((arraslaw3_num.f t257).bind fun t262 => (if t262 = 0 then ((arraslaw3_num.f t259).bind fun t263 => (if t263 = 0 then (if ((feq t258.1 t248.1 && feq t258.2 t248.2) = true) then (if fAddIs t248.1 t254.1 = true then (if fAddIs t248.2 t254.2 = true then (if ((feq t256.1 (fAdd t248.1 t254.1) && feq t256.2 (fAdd t248.2 t254.2)) = true) then ((arrasref3_Point.f t256).bind fun t264 => (arraslaw3_PointTurns.j5 k3 l0 x3_1 (!t264))) else (arraslaw3_PointTurns.j5 k3 l0 x3_1 true)) else (none)) else (none)) else (arraslaw3_PointTurns.j5 k3 l0 x3_1 true)) else (arraslaw3_PointTurns.j5 k3 l0 x3_1 true))) else (arraslaw3_PointTurns.j5 k3 l0 x3_1 true))) else (arraslaw3_PointTurns.j5 k3 l0 x3_1 true))) else (arraslaw3_PointTurns.j5 k3 l0 x3_1 true)) = some r := H
            have A53 := Aside0.mk A530; clear A530
            by_cases c54 : t260 = 0
            ·rw [if_pos c54] at H
             have c54b0 : (t260 == 0) = true := beq_iff_eq.mpr c54
             have c54b1 : (t260 != 0) = false := bne_eq_false_iff_eq.mpr c54
             clear c54
             (first | rw [c54b0] | (simp only [i64_w, i32_w]; rw [c54b0]) | skip)
             replace H := Option.bind_eq_some_iff.mp H
             obtain ⟨t261, A550, H⟩ := H
             replace H : (if t261 = 0 then ((arraslaw3_num.f t257).bind fun t262 => (if t262 = 0 then ((arraslaw3_num.f t259).bind fun t263 => (if t263 = 0 then (if ((feq t258.1 t248.1 && feq t258.2 t248.2) = true) then (if fAddIs t248.1 t254.1 = true then (if fAddIs t248.2 t254.2 = true then (if ((feq t256.1 (fAdd t248.1 t254.1) && feq t256.2 (fAdd t248.2 t254.2)) = true) then ((arrasref3_Point.f t256).bind fun t264 => (arraslaw3_PointTurns.j5 k3 l0 x3_1 (!t264))) else (arraslaw3_PointTurns.j5 k3 l0 x3_1 true)) else (none)) else (none)) else (arraslaw3_PointTurns.j5 k3 l0 x3_1 true)) else (arraslaw3_PointTurns.j5 k3 l0 x3_1 true))) else (arraslaw3_PointTurns.j5 k3 l0 x3_1 true))) else (arraslaw3_PointTurns.j5 k3 l0 x3_1 true)) = some r := H
             have A55 := Aside0.mk A550; clear A550
             by_cases c56 : t261 = 0
             ·rw [if_pos c56] at H
              have c56b0 : (t261 == 0) = true := beq_iff_eq.mpr c56
              have c56b1 : (t261 != 0) = false := bne_eq_false_iff_eq.mpr c56
              clear c56
              replace H := Option.bind_eq_some_iff.mp H
              obtain ⟨t262, A570, H⟩ := H
              replace H : (if t262 = 0 then ((arraslaw3_num.f t259).bind fun t263 => (if t263 = 0 then (if ((feq t258.1 t248.1 && feq t258.2 t248.2) = true) then (if fAddIs t248.1 t254.1 = true then (if fAddIs t248.2 t254.2 = true then (if ((feq t256.1 (fAdd t248.1 t254.1) && feq t256.2 (fAdd t248.2 t254.2)) = true) then ((arrasref3_Point.f t256).bind fun t264 => (arraslaw3_PointTurns.j5 k3 l0 x3_1 (!t264))) else (arraslaw3_PointTurns.j5 k3 l0 x3_1 true)) else (none)) else (none)) else (arraslaw3_PointTurns.j5 k3 l0 x3_1 true)) else (arraslaw3_PointTurns.j5 k3 l0 x3_1 true))) else (arraslaw3_PointTurns.j5 k3 l0 x3_1 true)) = some r := H
              have A57 := Aside0.mk A570; clear A570
              by_cases c58 : t262 = 0
              ·rw [if_pos c58] at H
               have c58b0 : (t262 == 0) = true := beq_iff_eq.mpr c58
               have c58b1 : (t262 != 0) = false := bne_eq_false_iff_eq.mpr c58
               clear c58
               replace H := Option.bind_eq_some_iff.mp H
               obtain ⟨t263, A590, H⟩ := H
               replace H : (if t263 = 0 then (if ((feq t258.1 t248.1 && feq t258.2 t248.2) = true) then (if fAddIs t248.1 t254.1 = true then (if fAddIs t248.2 t254.2 = true then (if ((feq t256.1 (fAdd t248.1 t254.1) && feq t256.2 (fAdd t248.2 t254.2)) = true) then ((arrasref3_Point.f t256).bind fun t264 => (arraslaw3_PointTurns.j5 k3 l0 x3_1 (!t264))) else (arraslaw3_PointTurns.j5 k3 l0 x3_1 true)) else (none)) else (none)) else (arraslaw3_PointTurns.j5 k3 l0 x3_1 true)) else (arraslaw3_PointTurns.j5 k3 l0 x3_1 true)) = some r := H
               have A59 := Aside0.mk A590; clear A590
               by_cases c60 : t263 = 0
               ·rw [if_pos c60] at H
                have c60b0 : (t263 == 0) = true := beq_iff_eq.mpr c60
                have c60b1 : (t263 != 0) = false := bne_eq_false_iff_eq.mpr c60
                clear c60
                by_cases c61 : ((feq t258.1 t248.1 && feq t258.2 t248.2) = true)
                ·rw [if_pos c61] at H
                 have c61b0 : (feq t258.1 t248.1 && feq t258.2 t248.2) = true := c61
                 clear c61
                 by_cases c62 : fAddIs t248.1 t254.1 = true
                 ·rw [if_pos c62] at H
                  have c62b0 := eq_true c62
                  have c62b1 : decide (fAddIs t248.1 t254.1 = true) = true := decide_eq_true c62
                  clear c62
                  by_cases c63 : fAddIs t248.2 t254.2 = true
                  ·rw [if_pos c63] at H
                   have c63b0 := eq_true c63
                   have c63b1 : decide (fAddIs t248.2 t254.2 = true) = true := decide_eq_true c63
                   clear c63
                   by_cases c64 : ((feq t256.1 (fAdd t248.1 t254.1) && feq t256.2 (fAdd t248.2 t254.2)) = true)
                   ·rw [if_pos c64] at H
                    have c64b0 : (feq t256.1 (fAdd t248.1 t254.1) && feq t256.2 (fAdd t248.2 t254.2)) = true := c64
                    clear c64
                    replace H := Option.bind_eq_some_iff.mp H
                    obtain ⟨t264, A650, H⟩ := H
                    replace H : (arraslaw3_PointTurns.j5 k3 l0 x3_1 (!t264)) = some r := H
                    have A65 := Aside0.mk A650; clear A650
                    have H' := Aside0.mk H
                    clear H
                    go_wp2_with (first | ((with_reducible refine gate_callee (f := 17) rfl ?_); refine goesL_ (some 152) rfl rfl Try.func17 (by kernel_rfl) rfl #[.int .i64 t249] rfl (by (try simp only [List.map_toArray, List.map_cons, List.map_nil]); first | done | rfl | (simp only [List.length_drop, List.length_take]; rfl)) ?_; (with_reducible refine (arraslaw3_num.calls t249 t260 _ A53.out).mono ?_); rintro e w' ⟨rfl, ⟨nd, rfl⟩⟩; refine ⟨_, rfl, ?_⟩) | (go_at_call 17; (with_reducible refine (arraslaw3_num.calls t255 t261 _ A55.out).mono ?_); rintro e w' ⟨rfl, ⟨nd, rfl⟩⟩) | (go_at_call 17; (with_reducible refine (arraslaw3_num.calls t257 t262 _ A57.out).mono ?_); rintro e w' ⟨rfl, ⟨nd, rfl⟩⟩) | (go_at_call 17; (with_reducible refine (arraslaw3_num.calls t259 t263 _ A59.out).mono ?_); rintro e w' ⟨rfl, ⟨nd, rfl⟩⟩) | (go_at_call 16; (with_reducible refine (arrasref3_Point.calls t256 t264 _ A65.out).mono ?_); rintro e w' ⟨rfl, ⟨nd, rfl⟩⟩))
                    go_meet
                    case rel => exact ⟨_, (!t264), (by first | rfl | (simp; done) | (simp [*]; done)), H', ⟨by have := HK1.out; have := HJ1.out; have := HK3.out; first | omega | exact Nat.le_refl _⟩, ⟨by repeat (first | (with_reducible first | exact HB.out | apply below_alloc | apply pw_below_drewN | apply below_drew1) | exact HB.out)⟩⟩
                   ·rw [if_neg c64] at H
                    have c64b0 : (feq t256.1 (fAdd t248.1 t254.1) && feq t256.2 (fAdd t248.2 t254.2)) = false := by simpa using c64
                    clear c64
                    have H' := Aside0.mk H
                    clear H
                    go_wp2_with (first | ((with_reducible refine gate_callee (f := 17) rfl ?_); refine goesL_ (some 152) rfl rfl Try.func17 (by kernel_rfl) rfl #[.int .i64 t249] rfl (by (try simp only [List.map_toArray, List.map_cons, List.map_nil]); first | done | rfl | (simp only [List.length_drop, List.length_take]; rfl)) ?_; (with_reducible refine (arraslaw3_num.calls t249 t260 _ A53.out).mono ?_); rintro e w' ⟨rfl, ⟨nd, rfl⟩⟩; refine ⟨_, rfl, ?_⟩) | (go_at_call 17; (with_reducible refine (arraslaw3_num.calls t255 t261 _ A55.out).mono ?_); rintro e w' ⟨rfl, ⟨nd, rfl⟩⟩) | (go_at_call 17; (with_reducible refine (arraslaw3_num.calls t257 t262 _ A57.out).mono ?_); rintro e w' ⟨rfl, ⟨nd, rfl⟩⟩) | (go_at_call 17; (with_reducible refine (arraslaw3_num.calls t259 t263 _ A59.out).mono ?_); rintro e w' ⟨rfl, ⟨nd, rfl⟩⟩))
                    go_meet
                    case rel => exact ⟨_, (true), (by first | rfl | (simp; done) | (simp [*]; done)), H', ⟨by have := HK1.out; have := HJ1.out; have := HK3.out; first | omega | exact Nat.le_refl _⟩, ⟨by repeat (first | (with_reducible first | exact HB.out | apply below_alloc | apply pw_below_drewN | apply below_drew1) | exact HB.out)⟩⟩
                  ·rw [if_neg c63] at H
                   exact absurd H (by simp)
                 ·rw [if_neg c62] at H
                  exact absurd H (by simp)
                ·rw [if_neg c61] at H
                 have c61b0 : (feq t258.1 t248.1 && feq t258.2 t248.2) = false := by simpa using c61
                 clear c61
                 have H' := Aside0.mk H
                 clear H
                 go_wp2_with (first | ((with_reducible refine gate_callee (f := 17) rfl ?_); refine goesL_ (some 152) rfl rfl Try.func17 (by kernel_rfl) rfl #[.int .i64 t249] rfl (by (try simp only [List.map_toArray, List.map_cons, List.map_nil]); first | done | rfl | (simp only [List.length_drop, List.length_take]; rfl)) ?_; (with_reducible refine (arraslaw3_num.calls t249 t260 _ A53.out).mono ?_); rintro e w' ⟨rfl, ⟨nd, rfl⟩⟩; refine ⟨_, rfl, ?_⟩) | (go_at_call 17; (with_reducible refine (arraslaw3_num.calls t255 t261 _ A55.out).mono ?_); rintro e w' ⟨rfl, ⟨nd, rfl⟩⟩) | (go_at_call 17; (with_reducible refine (arraslaw3_num.calls t257 t262 _ A57.out).mono ?_); rintro e w' ⟨rfl, ⟨nd, rfl⟩⟩) | (go_at_call 17; (with_reducible refine (arraslaw3_num.calls t259 t263 _ A59.out).mono ?_); rintro e w' ⟨rfl, ⟨nd, rfl⟩⟩))
                 go_meet
                 case rel => exact ⟨_, (true), (by first | rfl | (simp; done) | (simp [*]; done)), H', ⟨by have := HK1.out; have := HJ1.out; have := HK3.out; first | omega | exact Nat.le_refl _⟩, ⟨by repeat (first | (with_reducible first | exact HB.out | apply below_alloc | apply pw_below_drewN | apply below_drew1) | exact HB.out)⟩⟩
               ·rw [if_neg c60] at H
                have c60b0 : (t263 == 0) = false := beq_eq_false_iff_ne.mpr c60
                have c60b1 : (t263 != 0) = true := bne_iff_ne.mpr c60
                have H' := Aside0.mk H
                clear H
                go_wp2_with (first | ((with_reducible refine gate_callee (f := 17) rfl ?_); refine goesL_ (some 152) rfl rfl Try.func17 (by kernel_rfl) rfl #[.int .i64 t249] rfl (by (try simp only [List.map_toArray, List.map_cons, List.map_nil]); first | done | rfl | (simp only [List.length_drop, List.length_take]; rfl)) ?_; (with_reducible refine (arraslaw3_num.calls t249 t260 _ A53.out).mono ?_); rintro e w' ⟨rfl, ⟨nd, rfl⟩⟩; refine ⟨_, rfl, ?_⟩) | (go_at_call 17; (with_reducible refine (arraslaw3_num.calls t255 t261 _ A55.out).mono ?_); rintro e w' ⟨rfl, ⟨nd, rfl⟩⟩) | (go_at_call 17; (with_reducible refine (arraslaw3_num.calls t257 t262 _ A57.out).mono ?_); rintro e w' ⟨rfl, ⟨nd, rfl⟩⟩) | (go_at_call 17; (with_reducible refine (arraslaw3_num.calls t259 t263 _ A59.out).mono ?_); rintro e w' ⟨rfl, ⟨nd, rfl⟩⟩))
                go_meet
                case rel => exact ⟨_, (true), (by first | rfl | (simp; done) | (simp [*]; done)), H', ⟨by have := HK1.out; have := HJ1.out; have := HK3.out; first | omega | exact Nat.le_refl _⟩, ⟨by repeat (first | (with_reducible first | exact HB.out | apply below_alloc | apply pw_below_drewN | apply below_drew1) | exact HB.out)⟩⟩
              ·rw [if_neg c58] at H
               have c58b0 : (t262 == 0) = false := beq_eq_false_iff_ne.mpr c58
               have c58b1 : (t262 != 0) = true := bne_iff_ne.mpr c58
               have H' := Aside0.mk H
               clear H
               go_wp2_with (first | ((with_reducible refine gate_callee (f := 17) rfl ?_); refine goesL_ (some 152) rfl rfl Try.func17 (by kernel_rfl) rfl #[.int .i64 t249] rfl (by (try simp only [List.map_toArray, List.map_cons, List.map_nil]); first | done | rfl | (simp only [List.length_drop, List.length_take]; rfl)) ?_; (with_reducible refine (arraslaw3_num.calls t249 t260 _ A53.out).mono ?_); rintro e w' ⟨rfl, ⟨nd, rfl⟩⟩; refine ⟨_, rfl, ?_⟩) | (go_at_call 17; (with_reducible refine (arraslaw3_num.calls t255 t261 _ A55.out).mono ?_); rintro e w' ⟨rfl, ⟨nd, rfl⟩⟩) | (go_at_call 17; (with_reducible refine (arraslaw3_num.calls t257 t262 _ A57.out).mono ?_); rintro e w' ⟨rfl, ⟨nd, rfl⟩⟩))
               go_meet
               case rel => exact ⟨_, (true), (by first | rfl | (simp; done) | (simp [*]; done)), H', ⟨by have := HK1.out; have := HJ1.out; have := HK3.out; first | omega | exact Nat.le_refl _⟩, ⟨by repeat (first | (with_reducible first | exact HB.out | apply below_alloc | apply pw_below_drewN | apply below_drew1) | exact HB.out)⟩⟩
             ·rw [if_neg c56] at H
              have c56b0 : (t261 == 0) = false := beq_eq_false_iff_ne.mpr c56
              have c56b1 : (t261 != 0) = true := bne_iff_ne.mpr c56
              have H' := Aside0.mk H
              clear H
              go_wp2_with (first | ((with_reducible refine gate_callee (f := 17) rfl ?_); refine goesL_ (some 152) rfl rfl Try.func17 (by kernel_rfl) rfl #[.int .i64 t249] rfl (by (try simp only [List.map_toArray, List.map_cons, List.map_nil]); first | done | rfl | (simp only [List.length_drop, List.length_take]; rfl)) ?_; (with_reducible refine (arraslaw3_num.calls t249 t260 _ A53.out).mono ?_); rintro e w' ⟨rfl, ⟨nd, rfl⟩⟩; refine ⟨_, rfl, ?_⟩) | (go_at_call 17; (with_reducible refine (arraslaw3_num.calls t255 t261 _ A55.out).mono ?_); rintro e w' ⟨rfl, ⟨nd, rfl⟩⟩))
              go_meet
              case rel => exact ⟨_, (true), (by first | rfl | (simp; done) | (simp [*]; done)), H', ⟨by have := HK1.out; have := HJ1.out; have := HK3.out; first | omega | exact Nat.le_refl _⟩, ⟨by repeat (first | (with_reducible first | exact HB.out | apply below_alloc | apply pw_below_drewN | apply below_drew1) | exact HB.out)⟩⟩
            ·rw [if_neg c54] at H
             have c54b0 : (t260 == 0) = false := beq_eq_false_iff_ne.mpr c54
             have c54b1 : (t260 != 0) = true := bne_iff_ne.mpr c54
             (first | rw [c54b0] | (simp only [i64_w, i32_w]; rw [c54b0]) | skip)
             have H' := Aside0.mk H
             clear H
             go_wp2_with (first | ((with_reducible refine gate_callee (f := 17) rfl ?_); refine goesL_ (some 152) rfl rfl Try.func17 (by kernel_rfl) rfl #[.int .i64 t249] rfl (by (try simp only [List.map_toArray, List.map_cons, List.map_nil]); first | done | rfl | (simp only [List.length_drop, List.length_take]; rfl)) ?_; (with_reducible refine (arraslaw3_num.calls t249 t260 _ A53.out).mono ?_); rintro e w' ⟨rfl, ⟨nd, rfl⟩⟩; refine ⟨_, rfl, ?_⟩))
             go_meet
             case rel => exact ⟨_, (true), (by first | rfl | (simp; done) | (simp [*]; done)), H', ⟨by have := HK1.out; have := HJ1.out; have := HK3.out; first | omega | exact Nat.le_refl _⟩, ⟨by repeat (first | (with_reducible first | exact HB.out | apply below_alloc | apply pw_below_drewN | apply below_drew1) | exact HB.out)⟩⟩
           case rest => as_aux_lemma =>
            clear HC48
            try clear c1
            try clear c2
            try clear p2
            try clear q2
            try clear hx2
            try clear c5
            try clear c6
            try clear p6
            try clear c10
            try clear c17
            try clear c21
            try clear c22
            try clear c23
            try clear p24
            try clear q24
            try clear hx24
            try clear p25
            try clear q25
            try clear hx25
            try clear c54
            try clear c54b0
            try clear c54b1
            try clear c56
            try clear c56b0
            try clear c56b1
            try clear c58
            try clear c58b0
            try clear c58b1
            try clear c60
            try clear c60b0
            try clear c60b1
            try clear c61
            try clear c61b0
            try clear c62
            try clear c62b0
            try clear c62b1
            try clear c63
            try clear c63b0
            try clear c63b1
            try clear c64
            try clear c64b0
            try clear p64
            try clear hx244_0
            try clear hx244_1
            try clear hx244_2
            try clear hx244_3
            try clear hx244_4
            try clear hx244_5
            try clear hx244_6
            try clear hx244_7
            try clear hx244_8
            try clear hx244_9
            try clear hx246_0
            try clear hx246_1
            try clear hx246_2
            try clear hx246_3
            try clear hx246_4
            try clear hx246_5
            try clear hx246_6
            try clear hx246_7
            try clear hx246_8
            try clear hx246_9
            try clear hx250_0
            try clear hx250_1
            try clear hx250_2
            try clear hx250_3
            try clear hx250_4
            try clear hx250_5
            try clear hx250_6
            try clear hx250_7
            try clear hx250_8
            try clear hx250_9
            try clear hx252_0
            try clear hx252_1
            try clear hx252_2
            try clear hx252_3
            try clear hx252_4
            try clear hx252_5
            try clear hx252_6
            try clear hx252_7
            try clear hx252_8
            try clear hx252_9
            try clear p244
            try clear p246
            try clear p250
            try clear p252
            try clear q244
            try clear q246
            try clear q250
            try clear q252
            obtain ⟨kq, x185_47, rfl, HA, HJ47, HB⟩ := hcut
            cases kq with
            | zero => exact absurd HA.out (by simp [arraslaw3_PointTurns.j5])
            | succ kj47 =>
             have H := HA.out
             clear HA
             simp only [arraslaw3_PointTurns.j5] at H
             by_cases c66 : x185_47 = true
             ·subst c66
              have H1 : (some false) = some r := by rw [if_pos rfl] at H; exact H
              clear H; have H := H1; clear H1
              obtain rfl := Option.some.inj H
              go_wp2
              go_ret
              exact ⟨by first | rfl | (simp [errW_none, errW_some] <;> rfl) | (simp [*, errW_none, errW_some] <;> rfl), by repeat (first | (with_reducible first | exact HB.out | apply below_alloc | apply pw_below_drewN | apply below_drew1) | exact HB.out)⟩
             ·replace c66 := Bool.eq_false_iff.mpr c66
              subst c66
              have H1 : (arraslaw3_PointTurns.l0 kj47 l0 (wrap64 (x3_1 + 1))) = some r := by rw [if_neg (show ¬ (false = true) by decide)] at H; exact H
              clear H; have H := H1; clear H1
              have H' := Aside0.mk H
              clear H
              go_wp2
              go_roundg kj47
              case measure => have := HK1.out; have := HJ1.out; have := HK3.out; have := HJ47.out; omega
              case rel => exact ⟨(wrap64 (x3_1 + 1)), (by first | rfl | (simp; done) | (simp [*]; done)), H', ⟨by have := HK1.out; have := HJ1.out; have := HK3.out; have := HJ47.out; omega⟩, ⟨by repeat (first | (with_reducible first | exact HB.out | apply below_alloc | apply pw_below_drewN | apply below_drew1) | exact HB.out)⟩⟩
          ·rw [if_neg c39] at H
           exact absurd H (by simp)
         ·rw [if_neg c38] at H
          exact absurd H (by simp)
     ·replace c4 := Bool.eq_false_iff.mpr c4
      subst c4
      have H1 : ((arraslaw3_wakes.f kj1).bind fun t227 => (some t227)) = some r := by rw [if_neg (show ¬ (false = true) by decide)] at H; exact H
      clear H; have H := H1; clear H1
      replace H := Option.bind_eq_some_iff.mp H
      obtain ⟨t227, A670, H⟩ := H
      replace H : (some t227) = some r := H
      have A67 := Aside0.mk A670; clear A670
      obtain rfl := Option.some.inj H
      go_wp2_with (first | ((with_reducible refine gate_callee (f := 20) rfl ?_); refine goesL_ (some 186) rfl rfl Try.func20 (by kernel_rfl) rfl #[] rfl (by (try simp only [List.map_toArray, List.map_cons, List.map_nil]); first | done | rfl | (simp only [List.length_drop, List.length_take]; rfl)) ?_; (with_reducible refine (arraslaw3_wakes.calls kj1  t227 _ A67.out).mono ?_); rintro e w68 ⟨rfl, hb⟩; refine ⟨_, rfl, ?_⟩; have n0_ := Aside0.mk (below_step (by repeat (first | (with_reducible first | exact HB.out | apply below_alloc | apply pw_below_drewN | apply below_drew1) | exact HB.out)) hb); clear HB; have HB := n0_; clear n0_; (try clear hb); (try clear hb2); (try clear hk); (try clear hi)))
      go_ret
      exact ⟨by first | rfl | (simp [errW_none, errW_some] <;> rfl) | (simp [*, errW_none, errW_some] <;> rfl), by repeat (first | (with_reducible first | exact HB.out | apply below_alloc | apply pw_below_drewN | apply below_drew1) | exact HB.out)⟩

end Go.Proofs.Ytdpeeinmckohgaa.PC
