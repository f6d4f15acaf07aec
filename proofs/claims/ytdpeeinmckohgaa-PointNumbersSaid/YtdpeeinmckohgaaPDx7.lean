-- Written by wprint.py, a program of this session's, over the kit's print.
import Derived.Test.YtdpeeinmckohgaaPDx0
import Derived.Test.YtdpeeinmckohgaaPDx1
import Derived.Test.YtdpeeinmckohgaaPDx2
import Derived.Test.YtdpeeinmckohgaaPDx4
import Derived.Test.YtdpeeinmckohgaaPDx5
import Derived.Test.YtdpeeinmckohgaaPDx6
namespace Go.Proofs.Ytdpeeinmckohgaa.PD
open Go.RowKit Go.Proofs.YtdpeeinmckohgaaW.PrintWords Go.Proofs.YtdpeeinmckohgaaW.PrintLast Go.Proofs.YtdpeeinmckohgaaW.PrintMore
attribute [local go_sem] max2_int min2_int max_two min_two max_three min_three max_four min_four fl_eql fl_neq fl_lss fl_leq fl_gtr fl_geq fl_add fl_of fl_int cx_mk cx_real cx_imag cx_eql cx_neq cx_add st_f64 st_c128   -- for this text's walks alone
set_option linter.unusedVariables false
set_option linter.unusedSimpArgs false

/-! ### arraslaw3_PointNumbers: function 3 -/
mutual
def arraslaw3_PointNumbers.l0 : Nat → List (S26) → Int → Option (Bool)
  | 0, _, _ => none
  | k + 1, x0, x3 => if x3 < (x0.length : Int) then (arraslaw3_PointNumbers.j1 k x0 x3 (decide (x3 < 12))) else (arraslaw3_PointNumbers.j1 k x0 x3 false)
def arraslaw3_PointNumbers.j1 : Nat → List (S26) → Int → Bool → Option (Bool)
  | 0, _, _, _ => none
  | k + 1, x0, x3, x21 => if x21 = true then (if 0 ≤ x3 then (if x3 < (x0.length : Int) then ((arrasref1_Coord.f ((rd_T26 x0 x3).f0)).bind fun t159 => (if t159 = true then ((arrasref1_Coord.f ((rd_T26 x0 x3).f1)).bind fun t160 => (arraslaw3_PointNumbers.j2 k x0 x3 t160 ((rd_T26 x0 x3).f0) ((rd_T26 x0 x3).f1) ((rd_T26 x0 x3).f2.f0) ((rd_T26 x0 x3).f2.f1) ((rd_T26 x0 x3).f2.f2) ((rd_T26 x0 x3).f2.f3) ((rd_T26 x0 x3).f2.f4) ((rd_T26 x0 x3).f2.f5) ((rd_T26 x0 x3).f2.f6) ((rd_T26 x0 x3).f2.f7))) else (arraslaw3_PointNumbers.j2 k x0 x3 false ((rd_T26 x0 x3).f0) ((rd_T26 x0 x3).f1) ((rd_T26 x0 x3).f2.f0) ((rd_T26 x0 x3).f2.f1) ((rd_T26 x0 x3).f2.f2) ((rd_T26 x0 x3).f2.f3) ((rd_T26 x0 x3).f2.f4) ((rd_T26 x0 x3).f2.f5) ((rd_T26 x0 x3).f2.f6) ((rd_T26 x0 x3).f2.f7)))) else (none)) else (none)) else ((arraslaw3_wakes.f k).bind fun t156 => (some t156))
def arraslaw3_PointNumbers.j2 : Nat → List (S26) → Int → Bool → Int → Int → Nat → Nat → Nat → Nat → Nat → Nat → Nat → Nat → Option (Bool)
  | 0, _, _, _, _, _, _, _, _, _, _, _, _, _ => none
  | k + 1, x0, x3, x5, x159000, x159001, x159002, x159003, x159004, x159005, x159006, x159007, x159008, x159009 => (point_Of.f x159000 x159001).bind fun bt161 => (if x5 = true then ((arrasref3_Of.f x159000 x159001).bind fun t163 => ((arraslaw3_told.f bt161.1 bt161.2 x5 t163).bind fun t164 => (if t164 = true then (arraslaw3_PointNumbers.j3 k x0 x3 false x159000 x159001 x159002 x159003 x159004 x159005 x159006 x159007 x159008 x159009) else (arraslaw3_PointNumbers.j3 k x0 x3 true x159000 x159001 x159002 x159003 x159004 x159005 x159006 x159007 x159008 x159009)))) else ((arraslaw3_told.f bt161.1 bt161.2 x5 ((0, 0) : C128)).bind fun t165 => (arraslaw3_PointNumbers.j3 k x0 x3 (!t165) x159000 x159001 x159002 x159003 x159004 x159005 x159006 x159007 x159008 x159009)))
def arraslaw3_PointNumbers.j3 : Nat → List (S26) → Int → Bool → Int → Int → Nat → Nat → Nat → Nat → Nat → Nat → Nat → Nat → Option (Bool)
  | 0, _, _, _, _, _, _, _, _, _, _, _, _, _ => none
  | k + 1, x0, x3, x67, x159000, x159001, x159002, x159003, x159004, x159005, x159006, x159007, x159008, x159009 => if x67 = true then (some false) else (arraslaw3_PointNumbers.l1 k x0 x3 0 x159000 x159001 x159002 x159003 x159004 x159005 x159006 x159007 x159008 x159009)
def arraslaw3_PointNumbers.l1 : Nat → List (S26) → Int → Int → Int → Int → Nat → Nat → Nat → Nat → Nat → Nat → Nat → Nat → Option (Bool)
  | 0, _, _, _, _, _, _, _, _, _, _, _, _, _ => none
  | k + 1, x0, x3, x8, x159000, x159001, x159002, x159003, x159004, x159005, x159006, x159007, x159008, x159009 => if x8 < 4 then ((arraslaw3_Ask_c.f x159000 x159001 x159002 x159003 x159004 x159005 x159006 x159007 x159008 x159009 x8).bind fun t166 => ((point_Parts.f k t166).bind fun bt167 => ((arraslaw3_Ask_c.f x159000 x159001 x159002 x159003 x159004 x159005 x159006 x159007 x159008 x159009 x8).bind fun t170 => ((point_Turn.f k t170).bind fun bt171 => ((arraslaw3_Ask_c.f x159000 x159001 x159002 x159003 x159004 x159005 x159006 x159007 x159008 x159009 x8).bind fun t173 => ((arrasref3_Point.f t173).bind fun t174 => (if t174 = true then ((arraslaw3_num.f bt167.2.2).bind fun t177 => (if t177 = 0 then ((arraslaw3_Ask_c.f x159000 x159001 x159002 x159003 x159004 x159005 x159006 x159007 x159008 x159009 x8).bind fun t178 => ((arrasref3_X.f t178).bind fun t179 => (if bt167.1 = t179 then ((arraslaw3_Ask_c.f x159000 x159001 x159002 x159003 x159004 x159005 x159006 x159007 x159008 x159009 x8).bind fun t180 => ((arrasref3_Y.f t180).bind fun t181 => (if bt167.2.1 = t181 then ((arrasref3_Of.f bt167.2.1 bt167.1).bind fun t182 => ((arraslaw3_told.f bt171.1 bt171.2 true t182).bind fun t183 => (arraslaw3_PointNumbers.j6 k x0 x3 x8 (!t183) x159000 x159001 x159002 x159003 x159004 x159005 x159006 x159007 x159008 x159009))) else (arraslaw3_PointNumbers.j6 k x0 x3 x8 true x159000 x159001 x159002 x159003 x159004 x159005 x159006 x159007 x159008 x159009)))) else (arraslaw3_PointNumbers.j6 k x0 x3 x8 true x159000 x159001 x159002 x159003 x159004 x159005 x159006 x159007 x159008 x159009)))) else (arraslaw3_PointNumbers.j6 k x0 x3 x8 true x159000 x159001 x159002 x159003 x159004 x159005 x159006 x159007 x159008 x159009))) else ((arraslaw3_num.f bt167.2.2).bind fun t175 => (if t175 = 1 then (if bt167.1 = 0 then (if bt167.2.1 = 0 then ((arraslaw3_num.f bt171.2).bind fun t176 => (arraslaw3_PointNumbers.j5 k x0 x3 x8 (t176 != 1) x159000 x159001 x159002 x159003 x159004 x159005 x159006 x159007 x159008 x159009)) else (arraslaw3_PointNumbers.j5 k x0 x3 x8 true x159000 x159001 x159002 x159003 x159004 x159005 x159006 x159007 x159008 x159009)) else (arraslaw3_PointNumbers.j5 k x0 x3 x8 true x159000 x159001 x159002 x159003 x159004 x159005 x159006 x159007 x159008 x159009)) else (arraslaw3_PointNumbers.j5 k x0 x3 x8 true x159000 x159001 x159002 x159003 x159004 x159005 x159006 x159007 x159008 x159009)))))))))) else (arraslaw3_PointNumbers.l0 k x0 (wrap64 (x3 + 1)))
def arraslaw3_PointNumbers.j6 : Nat → List (S26) → Int → Int → Bool → Int → Int → Nat → Nat → Nat → Nat → Nat → Nat → Nat → Nat → Option (Bool)
  | 0, _, _, _, _, _, _, _, _, _, _, _, _, _, _ => none
  | k + 1, x0, x3, x8, x135, x159000, x159001, x159002, x159003, x159004, x159005, x159006, x159007, x159008, x159009 => if x135 = true then (some false) else (arraslaw3_PointNumbers.l1 k x0 x3 (wrap64 (x8 + 1)) x159000 x159001 x159002 x159003 x159004 x159005 x159006 x159007 x159008 x159009)
def arraslaw3_PointNumbers.j5 : Nat → List (S26) → Int → Int → Bool → Int → Int → Nat → Nat → Nat → Nat → Nat → Nat → Nat → Nat → Option (Bool)
  | 0, _, _, _, _, _, _, _, _, _, _, _, _, _, _ => none
  | k + 1, x0, x3, x8, x107, x159000, x159001, x159002, x159003, x159004, x159005, x159006, x159007, x159008, x159009 => if x107 = true then (some false) else (arraslaw3_PointNumbers.l1 k x0 x3 (wrap64 (x8 + 1)) x159000 x159001 x159002 x159003 x159004 x159005 x159006 x159007 x159008 x159009)
end
def arraslaw3_PointNumbers.f (k : Nat) (l0 : List (S26)) : Option (Bool) := arraslaw3_PointNumbers.l0 k l0 0
theorem arraslaw3_PointNumbers.mono_l : ∀ k, (∀ y0 y1, LeO (arraslaw3_PointNumbers.l0 k y0 y1) (arraslaw3_PointNumbers.l0 (k + 1) y0 y1)) ∧ (∀ y0 y1 y2, LeO (arraslaw3_PointNumbers.j1 k y0 y1 y2) (arraslaw3_PointNumbers.j1 (k + 1) y0 y1 y2)) ∧ (∀ y0 y1 y2 y3 y4 y5 y6 y7 y8 y9 y10 y11 y12, LeO (arraslaw3_PointNumbers.j2 k y0 y1 y2 y3 y4 y5 y6 y7 y8 y9 y10 y11 y12) (arraslaw3_PointNumbers.j2 (k + 1) y0 y1 y2 y3 y4 y5 y6 y7 y8 y9 y10 y11 y12)) ∧ (∀ y0 y1 y2 y3 y4 y5 y6 y7 y8 y9 y10 y11 y12, LeO (arraslaw3_PointNumbers.j3 k y0 y1 y2 y3 y4 y5 y6 y7 y8 y9 y10 y11 y12) (arraslaw3_PointNumbers.j3 (k + 1) y0 y1 y2 y3 y4 y5 y6 y7 y8 y9 y10 y11 y12)) ∧ (∀ y0 y1 y2 y3 y4 y5 y6 y7 y8 y9 y10 y11 y12, LeO (arraslaw3_PointNumbers.l1 k y0 y1 y2 y3 y4 y5 y6 y7 y8 y9 y10 y11 y12) (arraslaw3_PointNumbers.l1 (k + 1) y0 y1 y2 y3 y4 y5 y6 y7 y8 y9 y10 y11 y12)) ∧ (∀ y0 y1 y2 y3 y4 y5 y6 y7 y8 y9 y10 y11 y12 y13, LeO (arraslaw3_PointNumbers.j6 k y0 y1 y2 y3 y4 y5 y6 y7 y8 y9 y10 y11 y12 y13) (arraslaw3_PointNumbers.j6 (k + 1) y0 y1 y2 y3 y4 y5 y6 y7 y8 y9 y10 y11 y12 y13)) ∧ (∀ y0 y1 y2 y3 y4 y5 y6 y7 y8 y9 y10 y11 y12 y13, LeO (arraslaw3_PointNumbers.j5 k y0 y1 y2 y3 y4 y5 y6 y7 y8 y9 y10 y11 y12 y13) (arraslaw3_PointNumbers.j5 (k + 1) y0 y1 y2 y3 y4 y5 y6 y7 y8 y9 y10 y11 y12 y13))
  | 0 => ⟨fun _ _ r h => by simp [arraslaw3_PointNumbers.l0] at h, fun _ _ _ r h => by simp [arraslaw3_PointNumbers.j1] at h, fun _ _ _ _ _ _ _ _ _ _ _ _ _ r h => by simp [arraslaw3_PointNumbers.j2] at h, fun _ _ _ _ _ _ _ _ _ _ _ _ _ r h => by simp [arraslaw3_PointNumbers.j3] at h, fun _ _ _ _ _ _ _ _ _ _ _ _ _ r h => by simp [arraslaw3_PointNumbers.l1] at h, fun _ _ _ _ _ _ _ _ _ _ _ _ _ _ r h => by simp [arraslaw3_PointNumbers.j6] at h, fun _ _ _ _ _ _ _ _ _ _ _ _ _ _ r h => by simp [arraslaw3_PointNumbers.j5] at h⟩
  | k + 1 => by
    obtain ⟨ih0, ih1, ih2, ih3, ih4, ih5, ih6⟩ := arraslaw3_PointNumbers.mono_l k
    refine ⟨?_, ?_, ?_, ?_, ?_, ?_, ?_⟩
    · intro y0 y1
      unfold arraslaw3_PointNumbers.l0
      repeat' first
      | (with_reducible exact ih0 _ _)
      | (with_reducible exact ih1 _ _ _)
      | (with_reducible exact ih2 _ _ _ _ _ _ _ _ _ _ _ _ _)
      | (with_reducible exact ih3 _ _ _ _ _ _ _ _ _ _ _ _ _)
      | (with_reducible exact ih4 _ _ _ _ _ _ _ _ _ _ _ _ _)
      | (with_reducible exact ih5 _ _ _ _ _ _ _ _ _ _ _ _ _ _)
      | (with_reducible exact ih6 _ _ _ _ _ _ _ _ _ _ _ _ _ _)
      | (with_reducible exact arraslaw3_wakes.mono _)
      | (with_reducible exact point_Parts.mono _ _)
      | (with_reducible exact point_Turn.mono _ _)
      | (with_reducible exact LeO.refl _)
      | (with_reducible exact LeO.none _)
      | (with_reducible refine LeO.ite ?_ ?_)
      | (with_reducible refine LeO.bind ?_ (fun _ => ?_))
      | exact ih0 _ _
      | exact ih1 _ _ _
      | exact ih2 _ _ _ _ _ _ _ _ _ _ _ _ _
      | exact ih3 _ _ _ _ _ _ _ _ _ _ _ _ _
      | exact ih4 _ _ _ _ _ _ _ _ _ _ _ _ _
      | exact ih5 _ _ _ _ _ _ _ _ _ _ _ _ _ _
      | exact ih6 _ _ _ _ _ _ _ _ _ _ _ _ _ _
      | exact arraslaw3_wakes.mono _
      | exact point_Parts.mono _ _
      | exact point_Turn.mono _ _
      | exact LeO.none _
      | refine LeO.ite ?_ ?_
      | refine LeO.bind ?_ (fun _ => ?_)
    · intro y0 y1 y2
      unfold arraslaw3_PointNumbers.j1
      repeat' first
      | (with_reducible exact ih0 _ _)
      | (with_reducible exact ih1 _ _ _)
      | (with_reducible exact ih2 _ _ _ _ _ _ _ _ _ _ _ _ _)
      | (with_reducible exact ih3 _ _ _ _ _ _ _ _ _ _ _ _ _)
      | (with_reducible exact ih4 _ _ _ _ _ _ _ _ _ _ _ _ _)
      | (with_reducible exact ih5 _ _ _ _ _ _ _ _ _ _ _ _ _ _)
      | (with_reducible exact ih6 _ _ _ _ _ _ _ _ _ _ _ _ _ _)
      | (with_reducible exact arraslaw3_wakes.mono _)
      | (with_reducible exact point_Parts.mono _ _)
      | (with_reducible exact point_Turn.mono _ _)
      | (with_reducible exact LeO.refl _)
      | (with_reducible exact LeO.none _)
      | (with_reducible refine LeO.ite ?_ ?_)
      | (with_reducible refine LeO.bind ?_ (fun _ => ?_))
      | exact ih0 _ _
      | exact ih1 _ _ _
      | exact ih2 _ _ _ _ _ _ _ _ _ _ _ _ _
      | exact ih3 _ _ _ _ _ _ _ _ _ _ _ _ _
      | exact ih4 _ _ _ _ _ _ _ _ _ _ _ _ _
      | exact ih5 _ _ _ _ _ _ _ _ _ _ _ _ _ _
      | exact ih6 _ _ _ _ _ _ _ _ _ _ _ _ _ _
      | exact arraslaw3_wakes.mono _
      | exact point_Parts.mono _ _
      | exact point_Turn.mono _ _
      | exact LeO.none _
      | refine LeO.ite ?_ ?_
      | refine LeO.bind ?_ (fun _ => ?_)
    · intro y0 y1 y2 y3 y4 y5 y6 y7 y8 y9 y10 y11 y12
      unfold arraslaw3_PointNumbers.j2
      repeat' first
      | (with_reducible exact ih0 _ _)
      | (with_reducible exact ih1 _ _ _)
      | (with_reducible exact ih2 _ _ _ _ _ _ _ _ _ _ _ _ _)
      | (with_reducible exact ih3 _ _ _ _ _ _ _ _ _ _ _ _ _)
      | (with_reducible exact ih4 _ _ _ _ _ _ _ _ _ _ _ _ _)
      | (with_reducible exact ih5 _ _ _ _ _ _ _ _ _ _ _ _ _ _)
      | (with_reducible exact ih6 _ _ _ _ _ _ _ _ _ _ _ _ _ _)
      | (with_reducible exact arraslaw3_wakes.mono _)
      | (with_reducible exact point_Parts.mono _ _)
      | (with_reducible exact point_Turn.mono _ _)
      | (with_reducible exact LeO.refl _)
      | (with_reducible exact LeO.none _)
      | (with_reducible refine LeO.ite ?_ ?_)
      | (with_reducible refine LeO.bind ?_ (fun _ => ?_))
      | exact ih0 _ _
      | exact ih1 _ _ _
      | exact ih2 _ _ _ _ _ _ _ _ _ _ _ _ _
      | exact ih3 _ _ _ _ _ _ _ _ _ _ _ _ _
      | exact ih4 _ _ _ _ _ _ _ _ _ _ _ _ _
      | exact ih5 _ _ _ _ _ _ _ _ _ _ _ _ _ _
      | exact ih6 _ _ _ _ _ _ _ _ _ _ _ _ _ _
      | exact arraslaw3_wakes.mono _
      | exact point_Parts.mono _ _
      | exact point_Turn.mono _ _
      | exact LeO.none _
      | refine LeO.ite ?_ ?_
      | refine LeO.bind ?_ (fun _ => ?_)
    · intro y0 y1 y2 y3 y4 y5 y6 y7 y8 y9 y10 y11 y12
      unfold arraslaw3_PointNumbers.j3
      repeat' first
      | (with_reducible exact ih0 _ _)
      | (with_reducible exact ih1 _ _ _)
      | (with_reducible exact ih2 _ _ _ _ _ _ _ _ _ _ _ _ _)
      | (with_reducible exact ih3 _ _ _ _ _ _ _ _ _ _ _ _ _)
      | (with_reducible exact ih4 _ _ _ _ _ _ _ _ _ _ _ _ _)
      | (with_reducible exact ih5 _ _ _ _ _ _ _ _ _ _ _ _ _ _)
      | (with_reducible exact ih6 _ _ _ _ _ _ _ _ _ _ _ _ _ _)
      | (with_reducible exact arraslaw3_wakes.mono _)
      | (with_reducible exact point_Parts.mono _ _)
      | (with_reducible exact point_Turn.mono _ _)
      | (with_reducible exact LeO.refl _)
      | (with_reducible exact LeO.none _)
      | (with_reducible refine LeO.ite ?_ ?_)
      | (with_reducible refine LeO.bind ?_ (fun _ => ?_))
      | exact ih0 _ _
      | exact ih1 _ _ _
      | exact ih2 _ _ _ _ _ _ _ _ _ _ _ _ _
      | exact ih3 _ _ _ _ _ _ _ _ _ _ _ _ _
      | exact ih4 _ _ _ _ _ _ _ _ _ _ _ _ _
      | exact ih5 _ _ _ _ _ _ _ _ _ _ _ _ _ _
      | exact ih6 _ _ _ _ _ _ _ _ _ _ _ _ _ _
      | exact arraslaw3_wakes.mono _
      | exact point_Parts.mono _ _
      | exact point_Turn.mono _ _
      | exact LeO.none _
      | refine LeO.ite ?_ ?_
      | refine LeO.bind ?_ (fun _ => ?_)
    · intro y0 y1 y2 y3 y4 y5 y6 y7 y8 y9 y10 y11 y12
      unfold arraslaw3_PointNumbers.l1
      repeat' first
      | (with_reducible exact ih0 _ _)
      | (with_reducible exact ih1 _ _ _)
      | (with_reducible exact ih2 _ _ _ _ _ _ _ _ _ _ _ _ _)
      | (with_reducible exact ih3 _ _ _ _ _ _ _ _ _ _ _ _ _)
      | (with_reducible exact ih4 _ _ _ _ _ _ _ _ _ _ _ _ _)
      | (with_reducible exact ih5 _ _ _ _ _ _ _ _ _ _ _ _ _ _)
      | (with_reducible exact ih6 _ _ _ _ _ _ _ _ _ _ _ _ _ _)
      | (with_reducible exact arraslaw3_wakes.mono _)
      | (with_reducible exact point_Parts.mono _ _)
      | (with_reducible exact point_Turn.mono _ _)
      | (with_reducible exact LeO.refl _)
      | (with_reducible exact LeO.none _)
      | (with_reducible refine LeO.ite ?_ ?_)
      | (with_reducible refine LeO.bind ?_ (fun _ => ?_))
      | exact ih0 _ _
      | exact ih1 _ _ _
      | exact ih2 _ _ _ _ _ _ _ _ _ _ _ _ _
      | exact ih3 _ _ _ _ _ _ _ _ _ _ _ _ _
      | exact ih4 _ _ _ _ _ _ _ _ _ _ _ _ _
      | exact ih5 _ _ _ _ _ _ _ _ _ _ _ _ _ _
      | exact ih6 _ _ _ _ _ _ _ _ _ _ _ _ _ _
      | exact arraslaw3_wakes.mono _
      | exact point_Parts.mono _ _
      | exact point_Turn.mono _ _
      | exact LeO.none _
      | refine LeO.ite ?_ ?_
      | refine LeO.bind ?_ (fun _ => ?_)
    · intro y0 y1 y2 y3 y4 y5 y6 y7 y8 y9 y10 y11 y12 y13
      unfold arraslaw3_PointNumbers.j6
      repeat' first
      | (with_reducible exact ih0 _ _)
      | (with_reducible exact ih1 _ _ _)
      | (with_reducible exact ih2 _ _ _ _ _ _ _ _ _ _ _ _ _)
      | (with_reducible exact ih3 _ _ _ _ _ _ _ _ _ _ _ _ _)
      | (with_reducible exact ih4 _ _ _ _ _ _ _ _ _ _ _ _ _)
      | (with_reducible exact ih5 _ _ _ _ _ _ _ _ _ _ _ _ _ _)
      | (with_reducible exact ih6 _ _ _ _ _ _ _ _ _ _ _ _ _ _)
      | (with_reducible exact arraslaw3_wakes.mono _)
      | (with_reducible exact point_Parts.mono _ _)
      | (with_reducible exact point_Turn.mono _ _)
      | (with_reducible exact LeO.refl _)
      | (with_reducible exact LeO.none _)
      | (with_reducible refine LeO.ite ?_ ?_)
      | (with_reducible refine LeO.bind ?_ (fun _ => ?_))
      | exact ih0 _ _
      | exact ih1 _ _ _
      | exact ih2 _ _ _ _ _ _ _ _ _ _ _ _ _
      | exact ih3 _ _ _ _ _ _ _ _ _ _ _ _ _
      | exact ih4 _ _ _ _ _ _ _ _ _ _ _ _ _
      | exact ih5 _ _ _ _ _ _ _ _ _ _ _ _ _ _
      | exact ih6 _ _ _ _ _ _ _ _ _ _ _ _ _ _
      | exact arraslaw3_wakes.mono _
      | exact point_Parts.mono _ _
      | exact point_Turn.mono _ _
      | exact LeO.none _
      | refine LeO.ite ?_ ?_
      | refine LeO.bind ?_ (fun _ => ?_)
    · intro y0 y1 y2 y3 y4 y5 y6 y7 y8 y9 y10 y11 y12 y13
      unfold arraslaw3_PointNumbers.j5
      repeat' first
      | (with_reducible exact ih0 _ _)
      | (with_reducible exact ih1 _ _ _)
      | (with_reducible exact ih2 _ _ _ _ _ _ _ _ _ _ _ _ _)
      | (with_reducible exact ih3 _ _ _ _ _ _ _ _ _ _ _ _ _)
      | (with_reducible exact ih4 _ _ _ _ _ _ _ _ _ _ _ _ _)
      | (with_reducible exact ih5 _ _ _ _ _ _ _ _ _ _ _ _ _ _)
      | (with_reducible exact ih6 _ _ _ _ _ _ _ _ _ _ _ _ _ _)
      | (with_reducible exact arraslaw3_wakes.mono _)
      | (with_reducible exact point_Parts.mono _ _)
      | (with_reducible exact point_Turn.mono _ _)
      | (with_reducible exact LeO.refl _)
      | (with_reducible exact LeO.none _)
      | (with_reducible refine LeO.ite ?_ ?_)
      | (with_reducible refine LeO.bind ?_ (fun _ => ?_))
      | exact ih0 _ _
      | exact ih1 _ _ _
      | exact ih2 _ _ _ _ _ _ _ _ _ _ _ _ _
      | exact ih3 _ _ _ _ _ _ _ _ _ _ _ _ _
      | exact ih4 _ _ _ _ _ _ _ _ _ _ _ _ _
      | exact ih5 _ _ _ _ _ _ _ _ _ _ _ _ _ _
      | exact ih6 _ _ _ _ _ _ _ _ _ _ _ _ _ _
      | exact arraslaw3_wakes.mono _
      | exact point_Parts.mono _ _
      | exact point_Turn.mono _ _
      | exact LeO.none _
      | refine LeO.ite ?_ ?_
      | refine LeO.bind ?_ (fun _ => ?_)
theorem arraslaw3_PointNumbers.mono : ∀ a0 k, LeO (arraslaw3_PointNumbers.f k a0) (arraslaw3_PointNumbers.f (k + 1) a0) := by
  intro a0 k
  obtain ⟨ih0, ih1, ih2, ih3, ih4, ih5, ih6⟩ := arraslaw3_PointNumbers.mono_l k
  unfold arraslaw3_PointNumbers.f
  repeat' first
      | (with_reducible exact ih0 _ _)
      | (with_reducible exact ih1 _ _ _)
      | (with_reducible exact ih2 _ _ _ _ _ _ _ _ _ _ _ _ _)
      | (with_reducible exact ih3 _ _ _ _ _ _ _ _ _ _ _ _ _)
      | (with_reducible exact ih4 _ _ _ _ _ _ _ _ _ _ _ _ _)
      | (with_reducible exact ih5 _ _ _ _ _ _ _ _ _ _ _ _ _ _)
      | (with_reducible exact ih6 _ _ _ _ _ _ _ _ _ _ _ _ _ _)
      | (with_reducible exact arraslaw3_wakes.mono _)
      | (with_reducible exact point_Parts.mono _ _)
      | (with_reducible exact point_Turn.mono _ _)
      | (with_reducible exact LeO.refl _)
      | (with_reducible exact LeO.none _)
      | (with_reducible refine LeO.ite ?_ ?_)
      | (with_reducible refine LeO.bind ?_ (fun _ => ?_))
      | exact ih0 _ _
      | exact ih1 _ _ _
      | exact ih2 _ _ _ _ _ _ _ _ _ _ _ _ _
      | exact ih3 _ _ _ _ _ _ _ _ _ _ _ _ _
      | exact ih4 _ _ _ _ _ _ _ _ _ _ _ _ _
      | exact ih5 _ _ _ _ _ _ _ _ _ _ _ _ _ _
      | exact ih6 _ _ _ _ _ _ _ _ _ _ _ _ _ _
      | exact arraslaw3_wakes.mono _
      | exact point_Parts.mono _ _
      | exact point_Turn.mono _ _
      | exact LeO.none _
      | refine LeO.ite ?_ ?_
      | refine LeO.bind ?_ (fun _ => ?_)
set_option maxHeartbeats 8000000 in
set_option maxRecDepth 100000 in
theorem arraslaw3_PointNumbers.calls (k : Nat) (A0 : Option Addr) (c0 : Nat) (l0 : List (S26)) (r : Bool) (w : World) (hr0 : Kd.C k26 w A0 l0.length l0) (hc0 : l0.length ≤ c0) (h : arraslaw3_PointNumbers.f k l0 = some r) :
  Calls Try.prog 3 #[.slice A0 l0.length c0] w fun e w' => e = .returned (.bool r) ∧ Below w.heap.size w w' := by
 have hu26 := Try.underlying26
 have HR0 := Aside0.mk hr0; have HC0 := Aside0.mk hc0; clear hr0 hc0; have HB := Aside0.mk (Below.refl w.heap.size w)
 have H : (arraslaw3_PointNumbers.l0 k l0 0) = some r := h
 clear h
 have H' := Aside0.mk H
 clear H
 go_enter Try.func3, Try.ntmps3
 go_wp2
 go_loopg [3] k (fun kq v3 w' => ∃ (x3_1 : Int), v3 = .int .i64 x3_1 ∧ Aside0 (arraslaw3_PointNumbers.l0 kq l0 x3_1 = some r) ∧ Aside0 (kq ≤ k) ∧ Aside0 (Below w.heap.size w w'))
 case atStart => exact ⟨(0), (by first | rfl | (simp; done) | (simp [*]; done)), H', ⟨Nat.le_refl _⟩, ⟨by repeat (first | (with_reducible first | exact HB.out | apply below_alloc | apply pw_below_drewN | apply below_drew1) | exact HB.out)⟩⟩
 case round =>
  clear H'
  obtain ⟨x3_1, rfl, HA, HK1, HB⟩ := hrel
  cases gk with
  | zero => exact absurd HA.out (by simp [arraslaw3_PointNumbers.l0])
  | succ k1 =>
   have H := HA.out
   clear HA
   simp only [arraslaw3_PointNumbers.l0] at H
   have HC2 := Aside0.mk H; clear H
   go_upto_region 2 with (fail)
   go_cut [21] (fun v21 wc => ∃ (kq : Nat) (x21_1 : Bool), v21 = .bool x21_1 ∧ Aside0 (arraslaw3_PointNumbers.j1 kq l0 x3_1 x21_1 = some r) ∧ Aside0 (kq ≤ k1) ∧ Aside0 (Below w.heap.size w wc))
   case first =>
    have H := HC2.out
    clear HC2
    by_cases c3 : x3_1 < (l0.length : Int)
    ·rw [if_pos c3] at H
     have c3b0 : decide (x3_1 < (l0.length : Int)) = true := decide_eq_true c3
     clear c3
     (first | rw [c3b0] | (simp only [i64_w, i32_w]; rw [c3b0]) | skip)
     have H' := Aside0.mk H
     clear H
     go_wp2
     go_meet
     case rel => exact ⟨_, (decide (x3_1 < 12)), (by first | rfl | (simp; done) | (simp [*]; done)), H', ⟨by have := HK1.out; first | omega | exact Nat.le_refl _⟩, ⟨by repeat (first | (with_reducible first | exact HB.out | apply below_alloc | apply pw_below_drewN | apply below_drew1) | exact HB.out)⟩⟩
    ·rw [if_neg c3] at H
     have c3b0 : decide (x3_1 < (l0.length : Int)) = false := decide_eq_false c3
     clear c3
     (first | rw [c3b0] | (simp only [i64_w, i32_w]; rw [c3b0]) | skip)
     have H' := Aside0.mk H
     clear H
     go_wp2
     go_meet
     case rel => exact ⟨_, (false), (by first | rfl | (simp; done) | (simp [*]; done)), H', ⟨by have := HK1.out; first | omega | exact Nat.le_refl _⟩, ⟨by repeat (first | (with_reducible first | exact HB.out | apply below_alloc | apply pw_below_drewN | apply below_drew1) | exact HB.out)⟩⟩
   case rest =>
    clear HC2
    try clear p2
    try clear c3
    try clear c3b0
    obtain ⟨kq, x21_1, rfl, HA, HJ1, HB⟩ := hcut
    cases kq with
    | zero => exact absurd HA.out (by simp [arraslaw3_PointNumbers.j1])
    | succ kj1 =>
     have H := HA.out
     clear HA
     simp only [arraslaw3_PointNumbers.j1] at H
     by_cases c4 : x21_1 = true
     ·subst c4
      have H1 : (if 0 ≤ x3_1 then (if x3_1 < (l0.length : Int) then ((arrasref1_Coord.f ((rd_T26 l0 x3_1).f0)).bind fun t159 => (if t159 = true then ((arrasref1_Coord.f ((rd_T26 l0 x3_1).f1)).bind fun t160 => (arraslaw3_PointNumbers.j2 kj1 l0 x3_1 t160 ((rd_T26 l0 x3_1).f0) ((rd_T26 l0 x3_1).f1) ((rd_T26 l0 x3_1).f2.f0) ((rd_T26 l0 x3_1).f2.f1) ((rd_T26 l0 x3_1).f2.f2) ((rd_T26 l0 x3_1).f2.f3) ((rd_T26 l0 x3_1).f2.f4) ((rd_T26 l0 x3_1).f2.f5) ((rd_T26 l0 x3_1).f2.f6) ((rd_T26 l0 x3_1).f2.f7))) else (arraslaw3_PointNumbers.j2 kj1 l0 x3_1 false ((rd_T26 l0 x3_1).f0) ((rd_T26 l0 x3_1).f1) ((rd_T26 l0 x3_1).f2.f0) ((rd_T26 l0 x3_1).f2.f1) ((rd_T26 l0 x3_1).f2.f2) ((rd_T26 l0 x3_1).f2.f3) ((rd_T26 l0 x3_1).f2.f4) ((rd_T26 l0 x3_1).f2.f5) ((rd_T26 l0 x3_1).f2.f6) ((rd_T26 l0 x3_1).f2.f7)))) else (none)) else (none)) = some r := by rw [if_pos rfl] at H; exact H
      clear H; have H := H1; clear H1
      by_cases c5 : 0 ≤ x3_1
      ·rw [if_pos c5] at H
       have c5b0 : decide (0 ≤ x3_1) = true := decide_eq_true c5
       clear c5
       by_cases c6 : x3_1 < (l0.length : Int)
       ·rw [if_pos c6] at H
        have c6b0 : decide (x3_1 < (l0.length : Int)) = true := decide_eq_true c6
        clear c6; have HC7 := Aside0.mk H; clear H; have p157 : 0 ≤ (x3_1 : Int) := of_decide_eq_true (by first | (with_reducible assumption) | assumption); have q157 : x3_1 < (l0.length : Int) := of_decide_eq_true (by first | (with_reducible assumption) | assumption)
        obtain ⟨ad157, e157, hx157_0, hx157_1, hx157_2, hx157_3, hx157_4, hx157_5, hx157_6, hx157_7, hx157_8, hx157_9⟩ := at_T26 HR0.out x3_1 p157 q157
        cases e157
        replace hx157_0 := (HB.out.cell (World.block_lt_of_cell? w _ hx157_0)).trans hx157_0
        replace hx157_1 := (HB.out.cell (World.block_lt_of_cell? w _ hx157_1)).trans hx157_1
        replace hx157_2 := (HB.out.cell (World.block_lt_of_cell? w _ hx157_2)).trans hx157_2
        replace hx157_3 := (HB.out.cell (World.block_lt_of_cell? w _ hx157_3)).trans hx157_3
        replace hx157_4 := (HB.out.cell (World.block_lt_of_cell? w _ hx157_4)).trans hx157_4
        replace hx157_5 := (HB.out.cell (World.block_lt_of_cell? w _ hx157_5)).trans hx157_5
        replace hx157_6 := (HB.out.cell (World.block_lt_of_cell? w _ hx157_6)).trans hx157_6
        replace hx157_7 := (HB.out.cell (World.block_lt_of_cell? w _ hx157_7)).trans hx157_7
        replace hx157_8 := (HB.out.cell (World.block_lt_of_cell? w _ hx157_8)).trans hx157_8
        replace hx157_9 := (HB.out.cell (World.block_lt_of_cell? w _ hx157_9)).trans hx157_9
        replace p157 := eq_true p157; replace q157 := eq_true q157
        go_upto_region 5 with (first | ((with_reducible refine gate_dst (N := 4) rfl ?_); refine box_event ?hg (N := 4) ?hd (cs := #[.int .i64 0, .int .i64 0, .float .f64 0, .float .f64 0, .float .f64 0, .float .f64 0, .float .f64 0, .float .f64 0, .float .f64 0, .float .f64 0]) (t := 26) ?hr ?_; (case hd => rfl); (case hg => rfl); (case hr => first | (go_simp; done) | (go_simp; rfl)); intro gb158 hg w8 hbox hb; have n0_ := Aside0.mk (below_step (by repeat (first | (with_reducible first | exact HB.out | apply below_alloc | apply pw_below_drewN | apply below_drew1) | exact HB.out)) hb); have n1_ := Aside0.mk (hbox); have n2_ := Aside0.mk ((by rw [hg]; exact (below_size (by repeat (first | (with_reducible first | exact HB.out | apply below_alloc | apply pw_below_drewN | apply below_drew1) | exact HB.out))) : w.heap.size ≤ gb158)); have n3_ := Aside0.mk ((by rw [hg]; exact (below_size (by repeat (first | (with_reducible first | exact HB.out | apply below_alloc | apply pw_below_drewN | apply below_drew1) | exact HB.out))) : w.heap.size ≤ gb158)); clear HB; have HB := n0_; have BK158 := n1_; have GW158 := n2_; have GE158 := n3_; clear n0_ n1_ n2_ n3_; clear hb hbox hg; have hcz9_0 : w8.cell? ⟨gb158, 0, none⟩ = some (.int .i64 0) := (blk_cell BK158.out 0).trans rfl; have hcz9_1 : w8.cell? ⟨gb158, 1, none⟩ = some (.int .i64 0) := (blk_cell BK158.out 1).trans rfl; have hcz9_2 : w8.cell? ⟨gb158, 2, none⟩ = some (.float .f64 0) := (blk_cell BK158.out 2).trans rfl; have hcz9_3 : w8.cell? ⟨gb158, 3, none⟩ = some (.float .f64 0) := (blk_cell BK158.out 3).trans rfl; have hcz9_4 : w8.cell? ⟨gb158, 4, none⟩ = some (.float .f64 0) := (blk_cell BK158.out 4).trans rfl; have hcz9_5 : w8.cell? ⟨gb158, 5, none⟩ = some (.float .f64 0) := (blk_cell BK158.out 5).trans rfl; have hcz9_6 : w8.cell? ⟨gb158, 6, none⟩ = some (.float .f64 0) := (blk_cell BK158.out 6).trans rfl; have hcz9_7 : w8.cell? ⟨gb158, 7, none⟩ = some (.float .f64 0) := (blk_cell BK158.out 7).trans rfl; have hcz9_8 : w8.cell? ⟨gb158, 8, none⟩ = some (.float .f64 0) := (blk_cell BK158.out 8).trans rfl; have hcz9_9 : w8.cell? ⟨gb158, 9, none⟩ = some (.float .f64 0) := (blk_cell BK158.out 9).trans rfl; have hfz9_0 := blk_frozen BK158.out 0; have hfz9_1 := blk_frozen BK158.out 1; have hfz9_2 := blk_frozen BK158.out 2; have hfz9_3 := blk_frozen BK158.out 3; have hfz9_4 := blk_frozen BK158.out 4; have hfz9_5 := blk_frozen BK158.out 5; have hfz9_6 := blk_frozen BK158.out 6; have hfz9_7 := blk_frozen BK158.out 7; have hfz9_8 := blk_frozen BK158.out 8; have hfz9_9 := blk_frozen BK158.out 9) | ((with_reducible refine gate_store (t := 26) (p := 4) rfl ?_); refine store_event (t := 26) (p := 4) (v := ?vo_w10) (w1 := ((((((((((w8.setCell ⟨gb158, 0, none⟩ (.int .i64 ((rd_T26 l0 x3_1).f0))).setCell ⟨gb158, 1, none⟩ (.int .i64 ((rd_T26 l0 x3_1).f1))).setCell ⟨gb158, 2, none⟩ (.float .f64 ((rd_T26 l0 x3_1).f2.f0))).setCell ⟨gb158, 3, none⟩ (.float .f64 ((rd_T26 l0 x3_1).f2.f1))).setCell ⟨gb158, 4, none⟩ (.float .f64 ((rd_T26 l0 x3_1).f2.f2))).setCell ⟨gb158, 5, none⟩ (.float .f64 ((rd_T26 l0 x3_1).f2.f3))).setCell ⟨gb158, 6, none⟩ (.float .f64 ((rd_T26 l0 x3_1).f2.f4))).setCell ⟨gb158, 7, none⟩ (.float .f64 ((rd_T26 l0 x3_1).f2.f5))).setCell ⟨gb158, 8, none⟩ (.float .f64 ((rd_T26 l0 x3_1).f2.f6))).setCell ⟨gb158, 9, none⟩ (.float .f64 ((rd_T26 l0 x3_1).f2.f7)))) ?hg ?ho ?hn ?hr ?_; (case ho => rfl); (case hg => rfl); (case hn => rfl); (case hr => first | (go_simp; done) | (go_simp; rfl)); intro w10 hw; have n0_ : Aside0 (w10.heap[gb158]? = some (.cells #[.int .i64 ((rd_T26 l0 x3_1).f0), .int .i64 ((rd_T26 l0 x3_1).f1), .float .f64 ((rd_T26 l0 x3_1).f2.f0), .float .f64 ((rd_T26 l0 x3_1).f2.f1), .float .f64 ((rd_T26 l0 x3_1).f2.f2), .float .f64 ((rd_T26 l0 x3_1).f2.f3), .float .f64 ((rd_T26 l0 x3_1).f2.f4), .float .f64 ((rd_T26 l0 x3_1).f2.f5), .float .f64 ((rd_T26 l0 x3_1).f2.f6), .float .f64 ((rd_T26 l0 x3_1).f2.f7)] 26 (0, 0))) := ⟨(by rw [hw]; exact (by (with_reducible repeat (first | refine blk_drewN ?_ _ | refine blk_drew ?_ | refine blk_alloc ?_ _)); refine blk_put (cs := #[.int .i64 ((rd_T26 l0 x3_1).f0), .int .i64 ((rd_T26 l0 x3_1).f1), .float .f64 ((rd_T26 l0 x3_1).f2.f0), .float .f64 ((rd_T26 l0 x3_1).f2.f1), .float .f64 ((rd_T26 l0 x3_1).f2.f2), .float .f64 ((rd_T26 l0 x3_1).f2.f3), .float .f64 ((rd_T26 l0 x3_1).f2.f4), .float .f64 ((rd_T26 l0 x3_1).f2.f5), .float .f64 ((rd_T26 l0 x3_1).f2.f6), .float .f64 0]) ?_ 9 _ rfl; (with_reducible repeat (first | refine blk_drewN ?_ _ | refine blk_drew ?_ | refine blk_alloc ?_ _)); refine blk_put (cs := #[.int .i64 ((rd_T26 l0 x3_1).f0), .int .i64 ((rd_T26 l0 x3_1).f1), .float .f64 ((rd_T26 l0 x3_1).f2.f0), .float .f64 ((rd_T26 l0 x3_1).f2.f1), .float .f64 ((rd_T26 l0 x3_1).f2.f2), .float .f64 ((rd_T26 l0 x3_1).f2.f3), .float .f64 ((rd_T26 l0 x3_1).f2.f4), .float .f64 ((rd_T26 l0 x3_1).f2.f5), .float .f64 0, .float .f64 0]) ?_ 8 _ rfl; (with_reducible repeat (first | refine blk_drewN ?_ _ | refine blk_drew ?_ | refine blk_alloc ?_ _)); refine blk_put (cs := #[.int .i64 ((rd_T26 l0 x3_1).f0), .int .i64 ((rd_T26 l0 x3_1).f1), .float .f64 ((rd_T26 l0 x3_1).f2.f0), .float .f64 ((rd_T26 l0 x3_1).f2.f1), .float .f64 ((rd_T26 l0 x3_1).f2.f2), .float .f64 ((rd_T26 l0 x3_1).f2.f3), .float .f64 ((rd_T26 l0 x3_1).f2.f4), .float .f64 0, .float .f64 0, .float .f64 0]) ?_ 7 _ rfl; (with_reducible repeat (first | refine blk_drewN ?_ _ | refine blk_drew ?_ | refine blk_alloc ?_ _)); refine blk_put (cs := #[.int .i64 ((rd_T26 l0 x3_1).f0), .int .i64 ((rd_T26 l0 x3_1).f1), .float .f64 ((rd_T26 l0 x3_1).f2.f0), .float .f64 ((rd_T26 l0 x3_1).f2.f1), .float .f64 ((rd_T26 l0 x3_1).f2.f2), .float .f64 ((rd_T26 l0 x3_1).f2.f3), .float .f64 0, .float .f64 0, .float .f64 0, .float .f64 0]) ?_ 6 _ rfl; (with_reducible repeat (first | refine blk_drewN ?_ _ | refine blk_drew ?_ | refine blk_alloc ?_ _)); refine blk_put (cs := #[.int .i64 ((rd_T26 l0 x3_1).f0), .int .i64 ((rd_T26 l0 x3_1).f1), .float .f64 ((rd_T26 l0 x3_1).f2.f0), .float .f64 ((rd_T26 l0 x3_1).f2.f1), .float .f64 ((rd_T26 l0 x3_1).f2.f2), .float .f64 0, .float .f64 0, .float .f64 0, .float .f64 0, .float .f64 0]) ?_ 5 _ rfl; (with_reducible repeat (first | refine blk_drewN ?_ _ | refine blk_drew ?_ | refine blk_alloc ?_ _)); refine blk_put (cs := #[.int .i64 ((rd_T26 l0 x3_1).f0), .int .i64 ((rd_T26 l0 x3_1).f1), .float .f64 ((rd_T26 l0 x3_1).f2.f0), .float .f64 ((rd_T26 l0 x3_1).f2.f1), .float .f64 0, .float .f64 0, .float .f64 0, .float .f64 0, .float .f64 0, .float .f64 0]) ?_ 4 _ rfl; (with_reducible repeat (first | refine blk_drewN ?_ _ | refine blk_drew ?_ | refine blk_alloc ?_ _)); refine blk_put (cs := #[.int .i64 ((rd_T26 l0 x3_1).f0), .int .i64 ((rd_T26 l0 x3_1).f1), .float .f64 ((rd_T26 l0 x3_1).f2.f0), .float .f64 0, .float .f64 0, .float .f64 0, .float .f64 0, .float .f64 0, .float .f64 0, .float .f64 0]) ?_ 3 _ rfl; (with_reducible repeat (first | refine blk_drewN ?_ _ | refine blk_drew ?_ | refine blk_alloc ?_ _)); refine blk_put (cs := #[.int .i64 ((rd_T26 l0 x3_1).f0), .int .i64 ((rd_T26 l0 x3_1).f1), .float .f64 0, .float .f64 0, .float .f64 0, .float .f64 0, .float .f64 0, .float .f64 0, .float .f64 0, .float .f64 0]) ?_ 2 _ rfl; (with_reducible repeat (first | refine blk_drewN ?_ _ | refine blk_drew ?_ | refine blk_alloc ?_ _)); refine blk_put (cs := #[.int .i64 ((rd_T26 l0 x3_1).f0), .int .i64 0, .float .f64 0, .float .f64 0, .float .f64 0, .float .f64 0, .float .f64 0, .float .f64 0, .float .f64 0, .float .f64 0]) ?_ 1 _ rfl; (with_reducible repeat (first | refine blk_drewN ?_ _ | refine blk_drew ?_ | refine blk_alloc ?_ _)); refine blk_put (cs := #[.int .i64 0, .int .i64 0, .float .f64 0, .float .f64 0, .float .f64 0, .float .f64 0, .float .f64 0, .float .f64 0, .float .f64 0, .float .f64 0]) ?_ 0 _ rfl; (with_reducible repeat (first | refine blk_drewN ?_ _ | refine blk_drew ?_ | refine blk_alloc ?_ _)); exact BK158.out))⟩; have n1_ : Aside0 (Below w.heap.size w w10) := ⟨(by rw [hw]; exact (by repeat (first | (with_reducible first | exact HB.out | apply below_alloc | apply pw_below_drewN | apply below_drew1 | refine below_set ?_ GE158.out) | exact HB.out)))⟩; clear hw; clear BK158; clear HB; have BK158 := n0_; have HB := n1_; clear n0_ n1_))
        (try simp only [Act.put, List.setIfInBounds_toArray, List.set_cons_zero, List.set_cons_succ])
        go_cut [5] (fun v5 wc => ∃ (kq : Nat) (x5_6 : Bool), v5 = .bool x5_6 ∧ Aside0 (arraslaw3_PointNumbers.j2 kq l0 x3_1 x5_6 ((rd_T26 l0 x3_1).f0) ((rd_T26 l0 x3_1).f1) ((rd_T26 l0 x3_1).f2.f0) ((rd_T26 l0 x3_1).f2.f1) ((rd_T26 l0 x3_1).f2.f2) ((rd_T26 l0 x3_1).f2.f3) ((rd_T26 l0 x3_1).f2.f4) ((rd_T26 l0 x3_1).f2.f5) ((rd_T26 l0 x3_1).f2.f6) ((rd_T26 l0 x3_1).f2.f7) = some r) ∧ Aside0 (kq ≤ kj1) ∧ Aside0 (wc.heap[gb158]? = some (.cells #[.int .i64 ((rd_T26 l0 x3_1).f0), .int .i64 ((rd_T26 l0 x3_1).f1), .float .f64 ((rd_T26 l0 x3_1).f2.f0), .float .f64 ((rd_T26 l0 x3_1).f2.f1), .float .f64 ((rd_T26 l0 x3_1).f2.f2), .float .f64 ((rd_T26 l0 x3_1).f2.f3), .float .f64 ((rd_T26 l0 x3_1).f2.f4), .float .f64 ((rd_T26 l0 x3_1).f2.f5), .float .f64 ((rd_T26 l0 x3_1).f2.f6), .float .f64 ((rd_T26 l0 x3_1).f2.f7)] 26 (0, 0))) ∧ Aside0 (Below w.heap.size w wc))
        case first =>
         have H := HC7.out
         clear HC7
         replace H := Option.bind_eq_some_iff.mp H
         obtain ⟨t159, A110, H⟩ := H
         replace H : (if t159 = true then ((arrasref1_Coord.f ((rd_T26 l0 x3_1).f1)).bind fun t160 => (arraslaw3_PointNumbers.j2 kj1 l0 x3_1 t160 ((rd_T26 l0 x3_1).f0) ((rd_T26 l0 x3_1).f1) ((rd_T26 l0 x3_1).f2.f0) ((rd_T26 l0 x3_1).f2.f1) ((rd_T26 l0 x3_1).f2.f2) ((rd_T26 l0 x3_1).f2.f3) ((rd_T26 l0 x3_1).f2.f4) ((rd_T26 l0 x3_1).f2.f5) ((rd_T26 l0 x3_1).f2.f6) ((rd_T26 l0 x3_1).f2.f7))) else (arraslaw3_PointNumbers.j2 kj1 l0 x3_1 false ((rd_T26 l0 x3_1).f0) ((rd_T26 l0 x3_1).f1) ((rd_T26 l0 x3_1).f2.f0) ((rd_T26 l0 x3_1).f2.f1) ((rd_T26 l0 x3_1).f2.f2) ((rd_T26 l0 x3_1).f2.f3) ((rd_T26 l0 x3_1).f2.f4) ((rd_T26 l0 x3_1).f2.f5) ((rd_T26 l0 x3_1).f2.f6) ((rd_T26 l0 x3_1).f2.f7))) = some r := H
         have A11 := Aside0.mk A110; clear A110
         by_cases c12 : t159 = true
         ·subst c12
          have H1 : ((arrasref1_Coord.f ((rd_T26 l0 x3_1).f1)).bind fun t160 => (arraslaw3_PointNumbers.j2 kj1 l0 x3_1 t160 ((rd_T26 l0 x3_1).f0) ((rd_T26 l0 x3_1).f1) ((rd_T26 l0 x3_1).f2.f0) ((rd_T26 l0 x3_1).f2.f1) ((rd_T26 l0 x3_1).f2.f2) ((rd_T26 l0 x3_1).f2.f3) ((rd_T26 l0 x3_1).f2.f4) ((rd_T26 l0 x3_1).f2.f5) ((rd_T26 l0 x3_1).f2.f6) ((rd_T26 l0 x3_1).f2.f7))) = some r := by rw [if_pos rfl] at H; exact H
          clear H; have H := H1; clear H1
          replace H := Option.bind_eq_some_iff.mp H
          obtain ⟨t160, A130, H⟩ := H
          replace H : (arraslaw3_PointNumbers.j2 kj1 l0 x3_1 t160 ((rd_T26 l0 x3_1).f0) ((rd_T26 l0 x3_1).f1) ((rd_T26 l0 x3_1).f2.f0) ((rd_T26 l0 x3_1).f2.f1) ((rd_T26 l0 x3_1).f2.f2) ((rd_T26 l0 x3_1).f2.f3) ((rd_T26 l0 x3_1).f2.f4) ((rd_T26 l0 x3_1).f2.f5) ((rd_T26 l0 x3_1).f2.f6) ((rd_T26 l0 x3_1).f2.f7)) = some r := H
          have A13 := Aside0.mk A130; clear A130
          have H' := Aside0.mk H
          clear H
          have hcz14_0 : w10.cell? ⟨gb158, 0, none⟩ = some (.int .i64 ((rd_T26 l0 x3_1).f0)) := (blk_cell BK158.out 0).trans rfl
          have hcz14_1 : w10.cell? ⟨gb158, 1, none⟩ = some (.int .i64 ((rd_T26 l0 x3_1).f1)) := (blk_cell BK158.out 1).trans rfl
          have hcz14_2 : w10.cell? ⟨gb158, 2, none⟩ = some (.float .f64 ((rd_T26 l0 x3_1).f2.f0)) := (blk_cell BK158.out 2).trans rfl
          have hcz14_3 : w10.cell? ⟨gb158, 3, none⟩ = some (.float .f64 ((rd_T26 l0 x3_1).f2.f1)) := (blk_cell BK158.out 3).trans rfl
          have hcz14_4 : w10.cell? ⟨gb158, 4, none⟩ = some (.float .f64 ((rd_T26 l0 x3_1).f2.f2)) := (blk_cell BK158.out 4).trans rfl
          have hcz14_5 : w10.cell? ⟨gb158, 5, none⟩ = some (.float .f64 ((rd_T26 l0 x3_1).f2.f3)) := (blk_cell BK158.out 5).trans rfl
          have hcz14_6 : w10.cell? ⟨gb158, 6, none⟩ = some (.float .f64 ((rd_T26 l0 x3_1).f2.f4)) := (blk_cell BK158.out 6).trans rfl
          have hcz14_7 : w10.cell? ⟨gb158, 7, none⟩ = some (.float .f64 ((rd_T26 l0 x3_1).f2.f5)) := (blk_cell BK158.out 7).trans rfl
          have hcz14_8 : w10.cell? ⟨gb158, 8, none⟩ = some (.float .f64 ((rd_T26 l0 x3_1).f2.f6)) := (blk_cell BK158.out 8).trans rfl
          have hcz14_9 : w10.cell? ⟨gb158, 9, none⟩ = some (.float .f64 ((rd_T26 l0 x3_1).f2.f7)) := (blk_cell BK158.out 9).trans rfl
          have hfz14_0 := blk_frozen BK158.out 0
          have hfz14_1 := blk_frozen BK158.out 1
          have hfz14_2 := blk_frozen BK158.out 2
          have hfz14_3 := blk_frozen BK158.out 3
          have hfz14_4 := blk_frozen BK158.out 4
          have hfz14_5 := blk_frozen BK158.out 5
          have hfz14_6 := blk_frozen BK158.out 6
          have hfz14_7 := blk_frozen BK158.out 7
          have hfz14_8 := blk_frozen BK158.out 8
          have hfz14_9 := blk_frozen BK158.out 9
          go_wp2_with (first | ((with_reducible refine gate_callee (f := 9) rfl ?_); refine goesL_ (some 30) rfl rfl Try.func9 (by kernel_rfl) rfl #[.int .i64 ((rd_T26 l0 x3_1).f0)] rfl (by (try simp only [List.map_toArray, List.map_cons, List.map_nil]); first | done | rfl | (simp only [List.length_drop, List.length_take]; rfl)) ?_; (with_reducible refine (arrasref1_Coord.calls ((rd_T26 l0 x3_1).f0) true _ A11.out).mono ?_); rintro e w' ⟨rfl, ⟨nd, rfl⟩⟩; refine ⟨_, rfl, ?_⟩) | (go_at_call 9; (with_reducible refine (arrasref1_Coord.calls ((rd_T26 l0 x3_1).f1) t160 _ A13.out).mono ?_); rintro e w' ⟨rfl, ⟨nd, rfl⟩⟩))
          go_meet
          case rel => exact ⟨_, (t160), (by first | rfl | (simp; done) | (simp [*]; done)), H', ⟨by have := HK1.out; have := HJ1.out; first | omega | exact Nat.le_refl _⟩, ⟨by (with_reducible repeat (first | refine blk_drewN ?_ _ | refine blk_drew ?_ | refine blk_alloc ?_ _)); exact BK158.out⟩, ⟨by repeat (first | (with_reducible first | exact HB.out | apply below_alloc | apply pw_below_drewN | apply below_drew1 | refine below_set ?_ GE158.out) | exact HB.out)⟩⟩
         ·replace c12 := Bool.eq_false_iff.mpr c12
          subst c12
          have H1 : (arraslaw3_PointNumbers.j2 kj1 l0 x3_1 false ((rd_T26 l0 x3_1).f0) ((rd_T26 l0 x3_1).f1) ((rd_T26 l0 x3_1).f2.f0) ((rd_T26 l0 x3_1).f2.f1) ((rd_T26 l0 x3_1).f2.f2) ((rd_T26 l0 x3_1).f2.f3) ((rd_T26 l0 x3_1).f2.f4) ((rd_T26 l0 x3_1).f2.f5) ((rd_T26 l0 x3_1).f2.f6) ((rd_T26 l0 x3_1).f2.f7)) = some r := by rw [if_neg (show ¬ (false = true) by decide)] at H; exact H
          clear H; have H := H1; clear H1
          have H' := Aside0.mk H
          clear H
          have hcz15_0 : w10.cell? ⟨gb158, 0, none⟩ = some (.int .i64 ((rd_T26 l0 x3_1).f0)) := (blk_cell BK158.out 0).trans rfl
          have hcz15_1 : w10.cell? ⟨gb158, 1, none⟩ = some (.int .i64 ((rd_T26 l0 x3_1).f1)) := (blk_cell BK158.out 1).trans rfl
          have hcz15_2 : w10.cell? ⟨gb158, 2, none⟩ = some (.float .f64 ((rd_T26 l0 x3_1).f2.f0)) := (blk_cell BK158.out 2).trans rfl
          have hcz15_3 : w10.cell? ⟨gb158, 3, none⟩ = some (.float .f64 ((rd_T26 l0 x3_1).f2.f1)) := (blk_cell BK158.out 3).trans rfl
          have hcz15_4 : w10.cell? ⟨gb158, 4, none⟩ = some (.float .f64 ((rd_T26 l0 x3_1).f2.f2)) := (blk_cell BK158.out 4).trans rfl
          have hcz15_5 : w10.cell? ⟨gb158, 5, none⟩ = some (.float .f64 ((rd_T26 l0 x3_1).f2.f3)) := (blk_cell BK158.out 5).trans rfl
          have hcz15_6 : w10.cell? ⟨gb158, 6, none⟩ = some (.float .f64 ((rd_T26 l0 x3_1).f2.f4)) := (blk_cell BK158.out 6).trans rfl
          have hcz15_7 : w10.cell? ⟨gb158, 7, none⟩ = some (.float .f64 ((rd_T26 l0 x3_1).f2.f5)) := (blk_cell BK158.out 7).trans rfl
          have hcz15_8 : w10.cell? ⟨gb158, 8, none⟩ = some (.float .f64 ((rd_T26 l0 x3_1).f2.f6)) := (blk_cell BK158.out 8).trans rfl
          have hcz15_9 : w10.cell? ⟨gb158, 9, none⟩ = some (.float .f64 ((rd_T26 l0 x3_1).f2.f7)) := (blk_cell BK158.out 9).trans rfl
          have hfz15_0 := blk_frozen BK158.out 0
          have hfz15_1 := blk_frozen BK158.out 1
          have hfz15_2 := blk_frozen BK158.out 2
          have hfz15_3 := blk_frozen BK158.out 3
          have hfz15_4 := blk_frozen BK158.out 4
          have hfz15_5 := blk_frozen BK158.out 5
          have hfz15_6 := blk_frozen BK158.out 6
          have hfz15_7 := blk_frozen BK158.out 7
          have hfz15_8 := blk_frozen BK158.out 8
          have hfz15_9 := blk_frozen BK158.out 9
          go_wp2_with (first | ((with_reducible refine gate_callee (f := 9) rfl ?_); refine goesL_ (some 30) rfl rfl Try.func9 (by kernel_rfl) rfl #[.int .i64 ((rd_T26 l0 x3_1).f0)] rfl (by (try simp only [List.map_toArray, List.map_cons, List.map_nil]); first | done | rfl | (simp only [List.length_drop, List.length_take]; rfl)) ?_; (with_reducible refine (arrasref1_Coord.calls ((rd_T26 l0 x3_1).f0) false _ A11.out).mono ?_); rintro e w' ⟨rfl, ⟨nd, rfl⟩⟩; refine ⟨_, rfl, ?_⟩))
          go_meet
          case rel => exact ⟨_, (false), (by first | rfl | (simp; done) | (simp [*]; done)), H', ⟨by have := HK1.out; have := HJ1.out; first | omega | exact Nat.le_refl _⟩, ⟨by (with_reducible repeat (first | refine blk_drewN ?_ _ | refine blk_drew ?_ | refine blk_alloc ?_ _)); exact BK158.out⟩, ⟨by repeat (first | (with_reducible first | exact HB.out | apply below_alloc | apply pw_below_drewN | apply below_drew1 | refine below_set ?_ GE158.out) | exact HB.out)⟩⟩
        case rest =>
         clear HC7
         try clear c1
         try clear p1
         try clear q1
         try clear hx1
         try clear p2
         try clear c3
         try clear c3b0
         try clear c4
         try clear c5
         try clear c5b0
         try clear c6
         try clear c6b0
         try clear c9
         try clear c12
         try clear p15
         try clear q15
         try clear hx15
         try clear hcz14_0
         try clear hcz14_1
         try clear hcz14_2
         try clear hcz14_3
         try clear hcz14_4
         try clear hcz14_5
         try clear hcz14_6
         try clear hcz14_7
         try clear hcz14_8
         try clear hcz14_9
         try clear hcz15_0
         try clear hcz15_1
         try clear hcz15_2
         try clear hcz15_3
         try clear hcz15_4
         try clear hcz15_5
         try clear hcz15_6
         try clear hcz15_7
         try clear hcz15_8
         try clear hcz15_9
         try clear hcz9_0
         try clear hcz9_1
         try clear hcz9_2
         try clear hcz9_3
         try clear hcz9_4
         try clear hcz9_5
         try clear hcz9_6
         try clear hcz9_7
         try clear hcz9_8
         try clear hcz9_9
         try clear hfz14_0
         try clear hfz14_1
         try clear hfz14_2
         try clear hfz14_3
         try clear hfz14_4
         try clear hfz14_5
         try clear hfz14_6
         try clear hfz14_7
         try clear hfz14_8
         try clear hfz14_9
         try clear hfz15_0
         try clear hfz15_1
         try clear hfz15_2
         try clear hfz15_3
         try clear hfz15_4
         try clear hfz15_5
         try clear hfz15_6
         try clear hfz15_7
         try clear hfz15_8
         try clear hfz15_9
         try clear hfz9_0
         try clear hfz9_1
         try clear hfz9_2
         try clear hfz9_3
         try clear hfz9_4
         try clear hfz9_5
         try clear hfz9_6
         try clear hfz9_7
         try clear hfz9_8
         try clear hfz9_9
         try clear hx157_0
         try clear hx157_1
         try clear hx157_2
         try clear hx157_3
         try clear hx157_4
         try clear hx157_5
         try clear hx157_6
         try clear hx157_7
         try clear hx157_8
         try clear hx157_9
         try clear p157
         try clear p2
         try clear q157
         obtain ⟨kq, x5_6, rfl, HA, HJ6, BK158, HB⟩ := hcut
         cases kq with
         | zero => exact absurd HA.out (by simp [arraslaw3_PointNumbers.j2])
         | succ kj6 =>
          have H := HA.out
          clear HA
          simp only [arraslaw3_PointNumbers.j2] at H
          replace H := Option.bind_eq_some_iff.mp H
          obtain ⟨⟨t161, t162⟩, A160, H⟩ := H
          replace H : (if x5_6 = true then ((arrasref3_Of.f ((rd_T26 l0 x3_1).f0) ((rd_T26 l0 x3_1).f1)).bind fun t163 => ((arraslaw3_told.f t161 t162 x5_6 t163).bind fun t164 => (if t164 = true then (arraslaw3_PointNumbers.j3 kj6 l0 x3_1 false ((rd_T26 l0 x3_1).f0) ((rd_T26 l0 x3_1).f1) ((rd_T26 l0 x3_1).f2.f0) ((rd_T26 l0 x3_1).f2.f1) ((rd_T26 l0 x3_1).f2.f2) ((rd_T26 l0 x3_1).f2.f3) ((rd_T26 l0 x3_1).f2.f4) ((rd_T26 l0 x3_1).f2.f5) ((rd_T26 l0 x3_1).f2.f6) ((rd_T26 l0 x3_1).f2.f7)) else (arraslaw3_PointNumbers.j3 kj6 l0 x3_1 true ((rd_T26 l0 x3_1).f0) ((rd_T26 l0 x3_1).f1) ((rd_T26 l0 x3_1).f2.f0) ((rd_T26 l0 x3_1).f2.f1) ((rd_T26 l0 x3_1).f2.f2) ((rd_T26 l0 x3_1).f2.f3) ((rd_T26 l0 x3_1).f2.f4) ((rd_T26 l0 x3_1).f2.f5) ((rd_T26 l0 x3_1).f2.f6) ((rd_T26 l0 x3_1).f2.f7))))) else ((arraslaw3_told.f t161 t162 x5_6 ((0, 0) : C128)).bind fun t165 => (arraslaw3_PointNumbers.j3 kj6 l0 x3_1 (!t165) ((rd_T26 l0 x3_1).f0) ((rd_T26 l0 x3_1).f1) ((rd_T26 l0 x3_1).f2.f0) ((rd_T26 l0 x3_1).f2.f1) ((rd_T26 l0 x3_1).f2.f2) ((rd_T26 l0 x3_1).f2.f3) ((rd_T26 l0 x3_1).f2.f4) ((rd_T26 l0 x3_1).f2.f5) ((rd_T26 l0 x3_1).f2.f6) ((rd_T26 l0 x3_1).f2.f7)))) = some r := H
          have A16 := Aside0.mk A160; clear A160; have HC17 := Aside0.mk H; clear H
          have hcz18_0 : wc.cell? ⟨gb158, 0, none⟩ = some (.int .i64 ((rd_T26 l0 x3_1).f0)) := (blk_cell BK158.out 0).trans rfl
          have hcz18_1 : wc.cell? ⟨gb158, 1, none⟩ = some (.int .i64 ((rd_T26 l0 x3_1).f1)) := (blk_cell BK158.out 1).trans rfl
          have hcz18_2 : wc.cell? ⟨gb158, 2, none⟩ = some (.float .f64 ((rd_T26 l0 x3_1).f2.f0)) := (blk_cell BK158.out 2).trans rfl
          have hcz18_3 : wc.cell? ⟨gb158, 3, none⟩ = some (.float .f64 ((rd_T26 l0 x3_1).f2.f1)) := (blk_cell BK158.out 3).trans rfl
          have hcz18_4 : wc.cell? ⟨gb158, 4, none⟩ = some (.float .f64 ((rd_T26 l0 x3_1).f2.f2)) := (blk_cell BK158.out 4).trans rfl
          have hcz18_5 : wc.cell? ⟨gb158, 5, none⟩ = some (.float .f64 ((rd_T26 l0 x3_1).f2.f3)) := (blk_cell BK158.out 5).trans rfl
          have hcz18_6 : wc.cell? ⟨gb158, 6, none⟩ = some (.float .f64 ((rd_T26 l0 x3_1).f2.f4)) := (blk_cell BK158.out 6).trans rfl
          have hcz18_7 : wc.cell? ⟨gb158, 7, none⟩ = some (.float .f64 ((rd_T26 l0 x3_1).f2.f5)) := (blk_cell BK158.out 7).trans rfl
          have hcz18_8 : wc.cell? ⟨gb158, 8, none⟩ = some (.float .f64 ((rd_T26 l0 x3_1).f2.f6)) := (blk_cell BK158.out 8).trans rfl
          have hcz18_9 : wc.cell? ⟨gb158, 9, none⟩ = some (.float .f64 ((rd_T26 l0 x3_1).f2.f7)) := (blk_cell BK158.out 9).trans rfl
          have hfz18_0 := blk_frozen BK158.out 0
          have hfz18_1 := blk_frozen BK158.out 1
          have hfz18_2 := blk_frozen BK158.out 2
          have hfz18_3 := blk_frozen BK158.out 3
          have hfz18_4 := blk_frozen BK158.out 4
          have hfz18_5 := blk_frozen BK158.out 5
          have hfz18_6 := blk_frozen BK158.out 6
          have hfz18_7 := blk_frozen BK158.out 7
          have hfz18_8 := blk_frozen BK158.out 8
          have hfz18_9 := blk_frozen BK158.out 9
          go_upto_region 7 with (first | ((with_reducible refine gate_callee (f := 10) rfl ?_); refine goesL_ (some 41) rfl rfl Try.func10 (by kernel_rfl) rfl #[.int .i64 ((rd_T26 l0 x3_1).f0), .int .i64 ((rd_T26 l0 x3_1).f1)] rfl (by (try simp only [List.map_toArray, List.map_cons, List.map_nil]); first | done | rfl | (simp only [List.length_drop, List.length_take]; rfl)) ?_; (with_reducible refine (point_Of.calls ((rd_T26 l0 x3_1).f0) ((rd_T26 l0 x3_1).f1) t161 t162 _ A16.out).mono ?_); rintro e w' ⟨rfl, ⟨nd, rfl⟩⟩; refine ⟨_, rfl, ?_⟩))
          (try simp only [Act.put, List.setIfInBounds_toArray, List.set_cons_zero, List.set_cons_succ])
          go_cut [67] (fun v67 wc => ∃ (kq : Nat) (x67_16 : Bool), v67 = .bool x67_16 ∧ Aside0 (arraslaw3_PointNumbers.j3 kq l0 x3_1 x67_16 ((rd_T26 l0 x3_1).f0) ((rd_T26 l0 x3_1).f1) ((rd_T26 l0 x3_1).f2.f0) ((rd_T26 l0 x3_1).f2.f1) ((rd_T26 l0 x3_1).f2.f2) ((rd_T26 l0 x3_1).f2.f3) ((rd_T26 l0 x3_1).f2.f4) ((rd_T26 l0 x3_1).f2.f5) ((rd_T26 l0 x3_1).f2.f6) ((rd_T26 l0 x3_1).f2.f7) = some r) ∧ Aside0 (kq ≤ kj6) ∧ Aside0 (wc.heap[gb158]? = some (.cells #[.int .i64 ((rd_T26 l0 x3_1).f0), .int .i64 ((rd_T26 l0 x3_1).f1), .float .f64 ((rd_T26 l0 x3_1).f2.f0), .float .f64 ((rd_T26 l0 x3_1).f2.f1), .float .f64 ((rd_T26 l0 x3_1).f2.f2), .float .f64 ((rd_T26 l0 x3_1).f2.f3), .float .f64 ((rd_T26 l0 x3_1).f2.f4), .float .f64 ((rd_T26 l0 x3_1).f2.f5), .float .f64 ((rd_T26 l0 x3_1).f2.f6), .float .f64 ((rd_T26 l0 x3_1).f2.f7)] 26 (0, 0))) ∧ Aside0 (Below w.heap.size w wc))
          case first =>
           have H := HC17.out
           clear HC17
           by_cases c19 : x5_6 = true
           ·subst c19
            have H1 : ((arrasref3_Of.f ((rd_T26 l0 x3_1).f0) ((rd_T26 l0 x3_1).f1)).bind fun t163 => ((arraslaw3_told.f t161 t162 true t163).bind fun t164 => (if t164 = true then (arraslaw3_PointNumbers.j3 kj6 l0 x3_1 false ((rd_T26 l0 x3_1).f0) ((rd_T26 l0 x3_1).f1) ((rd_T26 l0 x3_1).f2.f0) ((rd_T26 l0 x3_1).f2.f1) ((rd_T26 l0 x3_1).f2.f2) ((rd_T26 l0 x3_1).f2.f3) ((rd_T26 l0 x3_1).f2.f4) ((rd_T26 l0 x3_1).f2.f5) ((rd_T26 l0 x3_1).f2.f6) ((rd_T26 l0 x3_1).f2.f7)) else (arraslaw3_PointNumbers.j3 kj6 l0 x3_1 true ((rd_T26 l0 x3_1).f0) ((rd_T26 l0 x3_1).f1) ((rd_T26 l0 x3_1).f2.f0) ((rd_T26 l0 x3_1).f2.f1) ((rd_T26 l0 x3_1).f2.f2) ((rd_T26 l0 x3_1).f2.f3) ((rd_T26 l0 x3_1).f2.f4) ((rd_T26 l0 x3_1).f2.f5) ((rd_T26 l0 x3_1).f2.f6) ((rd_T26 l0 x3_1).f2.f7))))) = some r := by rw [if_pos rfl] at H; exact H
            clear H; have H := H1; clear H1
            replace H := Option.bind_eq_some_iff.mp H
            obtain ⟨t163, A200, H⟩ := H
            replace H : ((arraslaw3_told.f t161 t162 true t163).bind fun t164 => (if t164 = true then (arraslaw3_PointNumbers.j3 kj6 l0 x3_1 false ((rd_T26 l0 x3_1).f0) ((rd_T26 l0 x3_1).f1) ((rd_T26 l0 x3_1).f2.f0) ((rd_T26 l0 x3_1).f2.f1) ((rd_T26 l0 x3_1).f2.f2) ((rd_T26 l0 x3_1).f2.f3) ((rd_T26 l0 x3_1).f2.f4) ((rd_T26 l0 x3_1).f2.f5) ((rd_T26 l0 x3_1).f2.f6) ((rd_T26 l0 x3_1).f2.f7)) else (arraslaw3_PointNumbers.j3 kj6 l0 x3_1 true ((rd_T26 l0 x3_1).f0) ((rd_T26 l0 x3_1).f1) ((rd_T26 l0 x3_1).f2.f0) ((rd_T26 l0 x3_1).f2.f1) ((rd_T26 l0 x3_1).f2.f2) ((rd_T26 l0 x3_1).f2.f3) ((rd_T26 l0 x3_1).f2.f4) ((rd_T26 l0 x3_1).f2.f5) ((rd_T26 l0 x3_1).f2.f6) ((rd_T26 l0 x3_1).f2.f7)))) = some r := H
            have A20 := Aside0.mk A200; clear A200
            replace H := Option.bind_eq_some_iff.mp H
            obtain ⟨t164, A210, H⟩ := H
            replace H : (if t164 = true then (arraslaw3_PointNumbers.j3 kj6 l0 x3_1 false ((rd_T26 l0 x3_1).f0) ((rd_T26 l0 x3_1).f1) ((rd_T26 l0 x3_1).f2.f0) ((rd_T26 l0 x3_1).f2.f1) ((rd_T26 l0 x3_1).f2.f2) ((rd_T26 l0 x3_1).f2.f3) ((rd_T26 l0 x3_1).f2.f4) ((rd_T26 l0 x3_1).f2.f5) ((rd_T26 l0 x3_1).f2.f6) ((rd_T26 l0 x3_1).f2.f7)) else (arraslaw3_PointNumbers.j3 kj6 l0 x3_1 true ((rd_T26 l0 x3_1).f0) ((rd_T26 l0 x3_1).f1) ((rd_T26 l0 x3_1).f2.f0) ((rd_T26 l0 x3_1).f2.f1) ((rd_T26 l0 x3_1).f2.f2) ((rd_T26 l0 x3_1).f2.f3) ((rd_T26 l0 x3_1).f2.f4) ((rd_T26 l0 x3_1).f2.f5) ((rd_T26 l0 x3_1).f2.f6) ((rd_T26 l0 x3_1).f2.f7))) = some r := H
            have A21 := Aside0.mk A210; clear A210
            by_cases c22 : t164 = true
            ·subst c22
             have H1 : (arraslaw3_PointNumbers.j3 kj6 l0 x3_1 false ((rd_T26 l0 x3_1).f0) ((rd_T26 l0 x3_1).f1) ((rd_T26 l0 x3_1).f2.f0) ((rd_T26 l0 x3_1).f2.f1) ((rd_T26 l0 x3_1).f2.f2) ((rd_T26 l0 x3_1).f2.f3) ((rd_T26 l0 x3_1).f2.f4) ((rd_T26 l0 x3_1).f2.f5) ((rd_T26 l0 x3_1).f2.f6) ((rd_T26 l0 x3_1).f2.f7)) = some r := by rw [if_pos rfl] at H; exact H
             clear H; have H := H1; clear H1
             have H' := Aside0.mk H
             clear H
             have hcz23_0 : wc.cell? ⟨gb158, 0, none⟩ = some (.int .i64 ((rd_T26 l0 x3_1).f0)) := (blk_cell BK158.out 0).trans rfl
             have hcz23_1 : wc.cell? ⟨gb158, 1, none⟩ = some (.int .i64 ((rd_T26 l0 x3_1).f1)) := (blk_cell BK158.out 1).trans rfl
             have hcz23_2 : wc.cell? ⟨gb158, 2, none⟩ = some (.float .f64 ((rd_T26 l0 x3_1).f2.f0)) := (blk_cell BK158.out 2).trans rfl
             have hcz23_3 : wc.cell? ⟨gb158, 3, none⟩ = some (.float .f64 ((rd_T26 l0 x3_1).f2.f1)) := (blk_cell BK158.out 3).trans rfl
             have hcz23_4 : wc.cell? ⟨gb158, 4, none⟩ = some (.float .f64 ((rd_T26 l0 x3_1).f2.f2)) := (blk_cell BK158.out 4).trans rfl
             have hcz23_5 : wc.cell? ⟨gb158, 5, none⟩ = some (.float .f64 ((rd_T26 l0 x3_1).f2.f3)) := (blk_cell BK158.out 5).trans rfl
             have hcz23_6 : wc.cell? ⟨gb158, 6, none⟩ = some (.float .f64 ((rd_T26 l0 x3_1).f2.f4)) := (blk_cell BK158.out 6).trans rfl
             have hcz23_7 : wc.cell? ⟨gb158, 7, none⟩ = some (.float .f64 ((rd_T26 l0 x3_1).f2.f5)) := (blk_cell BK158.out 7).trans rfl
             have hcz23_8 : wc.cell? ⟨gb158, 8, none⟩ = some (.float .f64 ((rd_T26 l0 x3_1).f2.f6)) := (blk_cell BK158.out 8).trans rfl
             have hcz23_9 : wc.cell? ⟨gb158, 9, none⟩ = some (.float .f64 ((rd_T26 l0 x3_1).f2.f7)) := (blk_cell BK158.out 9).trans rfl
             have hfz23_0 := blk_frozen BK158.out 0
             have hfz23_1 := blk_frozen BK158.out 1
             have hfz23_2 := blk_frozen BK158.out 2
             have hfz23_3 := blk_frozen BK158.out 3
             have hfz23_4 := blk_frozen BK158.out 4
             have hfz23_5 := blk_frozen BK158.out 5
             have hfz23_6 := blk_frozen BK158.out 6
             have hfz23_7 := blk_frozen BK158.out 7
             have hfz23_8 := blk_frozen BK158.out 8
             have hfz23_9 := blk_frozen BK158.out 9
             go_wp2_with (first | (go_at_call 12; (with_reducible refine (arrasref3_Of.calls ((rd_T26 l0 x3_1).f0) ((rd_T26 l0 x3_1).f1) t163 _ A20.out).mono ?_); rintro e w' ⟨rfl, ⟨nd, rfl⟩⟩) | (go_at_call 11; (with_reducible refine (arraslaw3_told.calls t161 t162 true t163 true _ A21.out).mono ?_); rintro e w' ⟨rfl, ⟨nd, rfl⟩⟩))
             go_meet
             case rel => exact ⟨_, (false), (by first | rfl | (simp; done) | (simp [*]; done)), H', ⟨by have := HK1.out; have := HJ1.out; have := HJ6.out; first | omega | exact Nat.le_refl _⟩, ⟨by (with_reducible repeat (first | refine blk_drewN ?_ _ | refine blk_drew ?_ | refine blk_alloc ?_ _)); exact BK158.out⟩, ⟨by repeat (first | (with_reducible first | exact HB.out | apply below_alloc | apply pw_below_drewN | apply below_drew1 | refine below_set ?_ GE158.out) | exact HB.out)⟩⟩
            ·replace c22 := Bool.eq_false_iff.mpr c22
             subst c22
             have H1 : (arraslaw3_PointNumbers.j3 kj6 l0 x3_1 true ((rd_T26 l0 x3_1).f0) ((rd_T26 l0 x3_1).f1) ((rd_T26 l0 x3_1).f2.f0) ((rd_T26 l0 x3_1).f2.f1) ((rd_T26 l0 x3_1).f2.f2) ((rd_T26 l0 x3_1).f2.f3) ((rd_T26 l0 x3_1).f2.f4) ((rd_T26 l0 x3_1).f2.f5) ((rd_T26 l0 x3_1).f2.f6) ((rd_T26 l0 x3_1).f2.f7)) = some r := by rw [if_neg (show ¬ (false = true) by decide)] at H; exact H
             clear H; have H := H1; clear H1
             have H' := Aside0.mk H
             clear H
             have hcz24_0 : wc.cell? ⟨gb158, 0, none⟩ = some (.int .i64 ((rd_T26 l0 x3_1).f0)) := (blk_cell BK158.out 0).trans rfl
             have hcz24_1 : wc.cell? ⟨gb158, 1, none⟩ = some (.int .i64 ((rd_T26 l0 x3_1).f1)) := (blk_cell BK158.out 1).trans rfl
             have hcz24_2 : wc.cell? ⟨gb158, 2, none⟩ = some (.float .f64 ((rd_T26 l0 x3_1).f2.f0)) := (blk_cell BK158.out 2).trans rfl
             have hcz24_3 : wc.cell? ⟨gb158, 3, none⟩ = some (.float .f64 ((rd_T26 l0 x3_1).f2.f1)) := (blk_cell BK158.out 3).trans rfl
             have hcz24_4 : wc.cell? ⟨gb158, 4, none⟩ = some (.float .f64 ((rd_T26 l0 x3_1).f2.f2)) := (blk_cell BK158.out 4).trans rfl
             have hcz24_5 : wc.cell? ⟨gb158, 5, none⟩ = some (.float .f64 ((rd_T26 l0 x3_1).f2.f3)) := (blk_cell BK158.out 5).trans rfl
             have hcz24_6 : wc.cell? ⟨gb158, 6, none⟩ = some (.float .f64 ((rd_T26 l0 x3_1).f2.f4)) := (blk_cell BK158.out 6).trans rfl
             have hcz24_7 : wc.cell? ⟨gb158, 7, none⟩ = some (.float .f64 ((rd_T26 l0 x3_1).f2.f5)) := (blk_cell BK158.out 7).trans rfl
             have hcz24_8 : wc.cell? ⟨gb158, 8, none⟩ = some (.float .f64 ((rd_T26 l0 x3_1).f2.f6)) := (blk_cell BK158.out 8).trans rfl
             have hcz24_9 : wc.cell? ⟨gb158, 9, none⟩ = some (.float .f64 ((rd_T26 l0 x3_1).f2.f7)) := (blk_cell BK158.out 9).trans rfl
             have hfz24_0 := blk_frozen BK158.out 0
             have hfz24_1 := blk_frozen BK158.out 1
             have hfz24_2 := blk_frozen BK158.out 2
             have hfz24_3 := blk_frozen BK158.out 3
             have hfz24_4 := blk_frozen BK158.out 4
             have hfz24_5 := blk_frozen BK158.out 5
             have hfz24_6 := blk_frozen BK158.out 6
             have hfz24_7 := blk_frozen BK158.out 7
             have hfz24_8 := blk_frozen BK158.out 8
             have hfz24_9 := blk_frozen BK158.out 9
             go_wp2_with (first | (go_at_call 12; (with_reducible refine (arrasref3_Of.calls ((rd_T26 l0 x3_1).f0) ((rd_T26 l0 x3_1).f1) t163 _ A20.out).mono ?_); rintro e w' ⟨rfl, ⟨nd, rfl⟩⟩) | (go_at_call 11; (with_reducible refine (arraslaw3_told.calls t161 t162 true t163 false _ A21.out).mono ?_); rintro e w' ⟨rfl, ⟨nd, rfl⟩⟩))
             go_meet
             case rel => exact ⟨_, (true), (by first | rfl | (simp; done) | (simp [*]; done)), H', ⟨by have := HK1.out; have := HJ1.out; have := HJ6.out; first | omega | exact Nat.le_refl _⟩, ⟨by (with_reducible repeat (first | refine blk_drewN ?_ _ | refine blk_drew ?_ | refine blk_alloc ?_ _)); exact BK158.out⟩, ⟨by repeat (first | (with_reducible first | exact HB.out | apply below_alloc | apply pw_below_drewN | apply below_drew1 | refine below_set ?_ GE158.out) | exact HB.out)⟩⟩
           ·replace c19 := Bool.eq_false_iff.mpr c19
            subst c19
            have H1 : ((arraslaw3_told.f t161 t162 false ((0, 0) : C128)).bind fun t165 => (arraslaw3_PointNumbers.j3 kj6 l0 x3_1 (!t165) ((rd_T26 l0 x3_1).f0) ((rd_T26 l0 x3_1).f1) ((rd_T26 l0 x3_1).f2.f0) ((rd_T26 l0 x3_1).f2.f1) ((rd_T26 l0 x3_1).f2.f2) ((rd_T26 l0 x3_1).f2.f3) ((rd_T26 l0 x3_1).f2.f4) ((rd_T26 l0 x3_1).f2.f5) ((rd_T26 l0 x3_1).f2.f6) ((rd_T26 l0 x3_1).f2.f7))) = some r := by rw [if_neg (show ¬ (false = true) by decide)] at H; exact H
            clear H; have H := H1; clear H1
            replace H := Option.bind_eq_some_iff.mp H
            obtain ⟨t165, A250, H⟩ := H
            replace H : (arraslaw3_PointNumbers.j3 kj6 l0 x3_1 (!t165) ((rd_T26 l0 x3_1).f0) ((rd_T26 l0 x3_1).f1) ((rd_T26 l0 x3_1).f2.f0) ((rd_T26 l0 x3_1).f2.f1) ((rd_T26 l0 x3_1).f2.f2) ((rd_T26 l0 x3_1).f2.f3) ((rd_T26 l0 x3_1).f2.f4) ((rd_T26 l0 x3_1).f2.f5) ((rd_T26 l0 x3_1).f2.f6) ((rd_T26 l0 x3_1).f2.f7)) = some r := H
            have A25 := Aside0.mk A250; clear A250
            have H' := Aside0.mk H
            clear H
            go_wp2_with (first | (go_at_call 11; (with_reducible refine (arraslaw3_told.calls t161 t162 false ((0, 0) : C128) t165 _ A25.out).mono ?_); rintro e w' ⟨rfl, ⟨nd, rfl⟩⟩))
            go_meet
            case rel => exact ⟨_, (!t165), (by first | rfl | (simp; done) | (simp [*]; done)), H', ⟨by have := HK1.out; have := HJ1.out; have := HJ6.out; first | omega | exact Nat.le_refl _⟩, ⟨by (with_reducible repeat (first | refine blk_drewN ?_ _ | refine blk_drew ?_ | refine blk_alloc ?_ _)); exact BK158.out⟩, ⟨by repeat (first | (with_reducible first | exact HB.out | apply below_alloc | apply pw_below_drewN | apply below_drew1 | refine below_set ?_ GE158.out) | exact HB.out)⟩⟩
          case rest =>
           clear HC17
           try clear c1
           try clear p1
           try clear q1
           try clear hx1
           try clear c2
           try clear p2
           try clear c3
           try clear c3b0
           try clear c4
           try clear c5
           try clear c5b0
           try clear c6
           try clear c6b0
           try clear c9
           try clear c10
           try clear c12
           try clear p15
           try clear q15
           try clear hx15
           try clear c19
           try clear c22
           try clear hcz14_0
           try clear hcz14_1
           try clear hcz14_2
           try clear hcz14_3
           try clear hcz14_4
           try clear hcz14_5
           try clear hcz14_6
           try clear hcz14_7
           try clear hcz14_8
           try clear hcz14_9
           try clear hcz15_0
           try clear hcz15_1
           try clear hcz15_2
           try clear hcz15_3
           try clear hcz15_4
           try clear hcz15_5
           try clear hcz15_6
           try clear hcz15_7
           try clear hcz15_8
           try clear hcz15_9
           try clear hcz18_0
           try clear hcz18_1
           try clear hcz18_2
           try clear hcz18_3
           try clear hcz18_4
           try clear hcz18_5
           try clear hcz18_6
           try clear hcz18_7
           try clear hcz18_8
           try clear hcz18_9
           try clear hcz23_0
           try clear hcz23_1
           try clear hcz23_2
           try clear hcz23_3
           try clear hcz23_4
           try clear hcz23_5
           try clear hcz23_6
           try clear hcz23_7
           try clear hcz23_8
           try clear hcz23_9
           try clear hcz24_0
           try clear hcz24_1
           try clear hcz24_2
           try clear hcz24_3
           try clear hcz24_4
           try clear hcz24_5
           try clear hcz24_6
           try clear hcz24_7
           try clear hcz24_8
           try clear hcz24_9
           try clear hcz9_0
           try clear hcz9_1
           try clear hcz9_2
           try clear hcz9_3
           try clear hcz9_4
           try clear hcz9_5
           try clear hcz9_6
           try clear hcz9_7
           try clear hcz9_8
           try clear hcz9_9
           try clear hfz14_0
           try clear hfz14_1
           try clear hfz14_2
           try clear hfz14_3
           try clear hfz14_4
           try clear hfz14_5
           try clear hfz14_6
           try clear hfz14_7
           try clear hfz14_8
           try clear hfz14_9
           try clear hfz15_0
           try clear hfz15_1
           try clear hfz15_2
           try clear hfz15_3
           try clear hfz15_4
           try clear hfz15_5
           try clear hfz15_6
           try clear hfz15_7
           try clear hfz15_8
           try clear hfz15_9
           try clear hfz18_0
           try clear hfz18_1
           try clear hfz18_2
           try clear hfz18_3
           try clear hfz18_4
           try clear hfz18_5
           try clear hfz18_6
           try clear hfz18_7
           try clear hfz18_8
           try clear hfz18_9
           try clear hfz23_0
           try clear hfz23_1
           try clear hfz23_2
           try clear hfz23_3
           try clear hfz23_4
           try clear hfz23_5
           try clear hfz23_6
           try clear hfz23_7
           try clear hfz23_8
           try clear hfz23_9
           try clear hfz24_0
           try clear hfz24_1
           try clear hfz24_2
           try clear hfz24_3
           try clear hfz24_4
           try clear hfz24_5
           try clear hfz24_6
           try clear hfz24_7
           try clear hfz24_8
           try clear hfz24_9
           try clear hfz9_0
           try clear hfz9_1
           try clear hfz9_2
           try clear hfz9_3
           try clear hfz9_4
           try clear hfz9_5
           try clear hfz9_6
           try clear hfz9_7
           try clear hfz9_8
           try clear hfz9_9
           try clear hx157_0
           try clear hx157_1
           try clear hx157_2
           try clear hx157_3
           try clear hx157_4
           try clear hx157_5
           try clear hx157_6
           try clear hx157_7
           try clear hx157_8
           try clear hx157_9
           try clear p1
           try clear p15
           try clear p157
           try clear p2
           try clear q1
           try clear q15
           try clear q157
           obtain ⟨kq, x67_16, rfl, HA, HJ16, BK158, HB⟩ := hcut
           cases kq with
           | zero => exact absurd HA.out (by simp [arraslaw3_PointNumbers.j3])
           | succ kj16 =>
            have H := HA.out
            clear HA
            simp only [arraslaw3_PointNumbers.j3] at H
            by_cases c26 : x67_16 = true
            ·subst c26
             have H1 : (some false) = some r := by rw [if_pos rfl] at H; exact H
             clear H; have H := H1; clear H1
             obtain rfl := Option.some.inj H
             go_wp2
             go_ret
             exact ⟨by first | rfl | (simp [errW_none, errW_some] <;> rfl) | (simp [*, errW_none, errW_some] <;> rfl), by repeat (first | (with_reducible first | exact HB.out | apply below_alloc | apply pw_below_drewN | apply below_drew1 | refine below_set ?_ GE158.out) | exact HB.out)⟩
            ·replace c26 := Bool.eq_false_iff.mpr c26
             subst c26
             have H1 : (arraslaw3_PointNumbers.l1 kj16 l0 x3_1 0 ((rd_T26 l0 x3_1).f0) ((rd_T26 l0 x3_1).f1) ((rd_T26 l0 x3_1).f2.f0) ((rd_T26 l0 x3_1).f2.f1) ((rd_T26 l0 x3_1).f2.f2) ((rd_T26 l0 x3_1).f2.f3) ((rd_T26 l0 x3_1).f2.f4) ((rd_T26 l0 x3_1).f2.f5) ((rd_T26 l0 x3_1).f2.f6) ((rd_T26 l0 x3_1).f2.f7)) = some r := by rw [if_neg (show ¬ (false = true) by decide)] at H; exact H
             clear H; have H := H1; clear H1
             have H' := Aside0.mk H
             clear H
             go_wp2
             go_loopg [8] kj16 (fun kq v8 w' => ∃ (x8_5 : Int), v8 = .int .i64 x8_5 ∧ Aside0 (arraslaw3_PointNumbers.l1 kq l0 x3_1 x8_5 ((rd_T26 l0 x3_1).f0) ((rd_T26 l0 x3_1).f1) ((rd_T26 l0 x3_1).f2.f0) ((rd_T26 l0 x3_1).f2.f1) ((rd_T26 l0 x3_1).f2.f2) ((rd_T26 l0 x3_1).f2.f3) ((rd_T26 l0 x3_1).f2.f4) ((rd_T26 l0 x3_1).f2.f5) ((rd_T26 l0 x3_1).f2.f6) ((rd_T26 l0 x3_1).f2.f7) = some r) ∧ Aside0 (kq ≤ kj16) ∧ Aside0 (w'.heap[gb158]? = some (.cells #[.int .i64 ((rd_T26 l0 x3_1).f0), .int .i64 ((rd_T26 l0 x3_1).f1), .float .f64 ((rd_T26 l0 x3_1).f2.f0), .float .f64 ((rd_T26 l0 x3_1).f2.f1), .float .f64 ((rd_T26 l0 x3_1).f2.f2), .float .f64 ((rd_T26 l0 x3_1).f2.f3), .float .f64 ((rd_T26 l0 x3_1).f2.f4), .float .f64 ((rd_T26 l0 x3_1).f2.f5), .float .f64 ((rd_T26 l0 x3_1).f2.f6), .float .f64 ((rd_T26 l0 x3_1).f2.f7)] 26 (0, 0))) ∧ Aside0 (Below w.heap.size w w'))
             case atStart => exact ⟨(0), (by first | rfl | (simp; done) | (simp [*]; done)), H', ⟨Nat.le_refl _⟩, ⟨by (with_reducible repeat (first | refine blk_drewN ?_ _ | refine blk_drew ?_ | refine blk_alloc ?_ _)); exact BK158.out⟩, ⟨by repeat (first | (with_reducible first | exact HB.out | apply below_alloc | apply pw_below_drewN | apply below_drew1 | refine below_set ?_ GE158.out) | exact HB.out)⟩⟩
             case round =>
              clear H'
              try clear c1
              try clear p1
              try clear q1
              try clear hx1
              try clear c2
              try clear p2
              try clear c3
              try clear c3b0
              try clear c4
              try clear c5
              try clear c5b0
              try clear c6
              try clear c6b0
              try clear c9
              try clear c10
              try clear c12
              try clear p15
              try clear q15
              try clear hx15
              try clear c19
              try clear c22
              try clear c26
              try clear hcz14_0
              try clear hcz14_1
              try clear hcz14_2
              try clear hcz14_3
              try clear hcz14_4
              try clear hcz14_5
              try clear hcz14_6
              try clear hcz14_7
              try clear hcz14_8
              try clear hcz14_9
              try clear hcz15_0
              try clear hcz15_1
              try clear hcz15_2
              try clear hcz15_3
              try clear hcz15_4
              try clear hcz15_5
              try clear hcz15_6
              try clear hcz15_7
              try clear hcz15_8
              try clear hcz15_9
              try clear hcz18_0
              try clear hcz18_1
              try clear hcz18_2
              try clear hcz18_3
              try clear hcz18_4
              try clear hcz18_5
              try clear hcz18_6
              try clear hcz18_7
              try clear hcz18_8
              try clear hcz18_9
              try clear hcz23_0
              try clear hcz23_1
              try clear hcz23_2
              try clear hcz23_3
              try clear hcz23_4
              try clear hcz23_5
              try clear hcz23_6
              try clear hcz23_7
              try clear hcz23_8
              try clear hcz23_9
              try clear hcz24_0
              try clear hcz24_1
              try clear hcz24_2
              try clear hcz24_3
              try clear hcz24_4
              try clear hcz24_5
              try clear hcz24_6
              try clear hcz24_7
              try clear hcz24_8
              try clear hcz24_9
              try clear hcz9_0
              try clear hcz9_1
              try clear hcz9_2
              try clear hcz9_3
              try clear hcz9_4
              try clear hcz9_5
              try clear hcz9_6
              try clear hcz9_7
              try clear hcz9_8
              try clear hcz9_9
              try clear hfz14_0
              try clear hfz14_1
              try clear hfz14_2
              try clear hfz14_3
              try clear hfz14_4
              try clear hfz14_5
              try clear hfz14_6
              try clear hfz14_7
              try clear hfz14_8
              try clear hfz14_9
              try clear hfz15_0
              try clear hfz15_1
              try clear hfz15_2
              try clear hfz15_3
              try clear hfz15_4
              try clear hfz15_5
              try clear hfz15_6
              try clear hfz15_7
              try clear hfz15_8
              try clear hfz15_9
              try clear hfz18_0
              try clear hfz18_1
              try clear hfz18_2
              try clear hfz18_3
              try clear hfz18_4
              try clear hfz18_5
              try clear hfz18_6
              try clear hfz18_7
              try clear hfz18_8
              try clear hfz18_9
              try clear hfz23_0
              try clear hfz23_1
              try clear hfz23_2
              try clear hfz23_3
              try clear hfz23_4
              try clear hfz23_5
              try clear hfz23_6
              try clear hfz23_7
              try clear hfz23_8
              try clear hfz23_9
              try clear hfz24_0
              try clear hfz24_1
              try clear hfz24_2
              try clear hfz24_3
              try clear hfz24_4
              try clear hfz24_5
              try clear hfz24_6
              try clear hfz24_7
              try clear hfz24_8
              try clear hfz24_9
              try clear hfz9_0
              try clear hfz9_1
              try clear hfz9_2
              try clear hfz9_3
              try clear hfz9_4
              try clear hfz9_5
              try clear hfz9_6
              try clear hfz9_7
              try clear hfz9_8
              try clear hfz9_9
              try clear hx157_0
              try clear hx157_1
              try clear hx157_2
              try clear hx157_3
              try clear hx157_4
              try clear hx157_5
              try clear hx157_6
              try clear hx157_7
              try clear hx157_8
              try clear hx157_9
              try clear p1
              try clear p15
              try clear p157
              try clear p2
              try clear q1
              try clear q15
              try clear q157
              obtain ⟨x8_5, rfl, HA, HK5, BK158, HB⟩ := hrel
              cases gk with
              | zero => exact absurd HA.out (by simp [arraslaw3_PointNumbers.l1])
              | succ k5 =>
               have H := HA.out
               clear HA
               simp only [arraslaw3_PointNumbers.l1] at H
               by_cases c27 : x8_5 < 4
               ·rw [if_pos c27] at H
                have c27b0 : decide (x8_5 < 4) = true := decide_eq_true c27
                clear c27
                replace H := Option.bind_eq_some_iff.mp H
                obtain ⟨t166, A280, H⟩ := H
                replace H : ((point_Parts.f k5 t166).bind fun bt167 => ((arraslaw3_Ask_c.f ((rd_T26 l0 x3_1).f0) ((rd_T26 l0 x3_1).f1) ((rd_T26 l0 x3_1).f2.f0) ((rd_T26 l0 x3_1).f2.f1) ((rd_T26 l0 x3_1).f2.f2) ((rd_T26 l0 x3_1).f2.f3) ((rd_T26 l0 x3_1).f2.f4) ((rd_T26 l0 x3_1).f2.f5) ((rd_T26 l0 x3_1).f2.f6) ((rd_T26 l0 x3_1).f2.f7) x8_5).bind fun t170 => ((point_Turn.f k5 t170).bind fun bt171 => ((arraslaw3_Ask_c.f ((rd_T26 l0 x3_1).f0) ((rd_T26 l0 x3_1).f1) ((rd_T26 l0 x3_1).f2.f0) ((rd_T26 l0 x3_1).f2.f1) ((rd_T26 l0 x3_1).f2.f2) ((rd_T26 l0 x3_1).f2.f3) ((rd_T26 l0 x3_1).f2.f4) ((rd_T26 l0 x3_1).f2.f5) ((rd_T26 l0 x3_1).f2.f6) ((rd_T26 l0 x3_1).f2.f7) x8_5).bind fun t173 => ((arrasref3_Point.f t173).bind fun t174 => (if t174 = true then ((arraslaw3_num.f bt167.2.2).bind fun t177 => (if t177 = 0 then ((arraslaw3_Ask_c.f ((rd_T26 l0 x3_1).f0) ((rd_T26 l0 x3_1).f1) ((rd_T26 l0 x3_1).f2.f0) ((rd_T26 l0 x3_1).f2.f1) ((rd_T26 l0 x3_1).f2.f2) ((rd_T26 l0 x3_1).f2.f3) ((rd_T26 l0 x3_1).f2.f4) ((rd_T26 l0 x3_1).f2.f5) ((rd_T26 l0 x3_1).f2.f6) ((rd_T26 l0 x3_1).f2.f7) x8_5).bind fun t178 => ((arrasref3_X.f t178).bind fun t179 => (if bt167.1 = t179 then ((arraslaw3_Ask_c.f ((rd_T26 l0 x3_1).f0) ((rd_T26 l0 x3_1).f1) ((rd_T26 l0 x3_1).f2.f0) ((rd_T26 l0 x3_1).f2.f1) ((rd_T26 l0 x3_1).f2.f2) ((rd_T26 l0 x3_1).f2.f3) ((rd_T26 l0 x3_1).f2.f4) ((rd_T26 l0 x3_1).f2.f5) ((rd_T26 l0 x3_1).f2.f6) ((rd_T26 l0 x3_1).f2.f7) x8_5).bind fun t180 => ((arrasref3_Y.f t180).bind fun t181 => (if bt167.2.1 = t181 then ((arrasref3_Of.f bt167.2.1 bt167.1).bind fun t182 => ((arraslaw3_told.f bt171.1 bt171.2 true t182).bind fun t183 => (arraslaw3_PointNumbers.j6 k5 l0 x3_1 x8_5 (!t183) ((rd_T26 l0 x3_1).f0) ((rd_T26 l0 x3_1).f1) ((rd_T26 l0 x3_1).f2.f0) ((rd_T26 l0 x3_1).f2.f1) ((rd_T26 l0 x3_1).f2.f2) ((rd_T26 l0 x3_1).f2.f3) ((rd_T26 l0 x3_1).f2.f4) ((rd_T26 l0 x3_1).f2.f5) ((rd_T26 l0 x3_1).f2.f6) ((rd_T26 l0 x3_1).f2.f7)))) else (arraslaw3_PointNumbers.j6 k5 l0 x3_1 x8_5 true ((rd_T26 l0 x3_1).f0) ((rd_T26 l0 x3_1).f1) ((rd_T26 l0 x3_1).f2.f0) ((rd_T26 l0 x3_1).f2.f1) ((rd_T26 l0 x3_1).f2.f2) ((rd_T26 l0 x3_1).f2.f3) ((rd_T26 l0 x3_1).f2.f4) ((rd_T26 l0 x3_1).f2.f5) ((rd_T26 l0 x3_1).f2.f6) ((rd_T26 l0 x3_1).f2.f7))))) else (arraslaw3_PointNumbers.j6 k5 l0 x3_1 x8_5 true ((rd_T26 l0 x3_1).f0) ((rd_T26 l0 x3_1).f1) ((rd_T26 l0 x3_1).f2.f0) ((rd_T26 l0 x3_1).f2.f1) ((rd_T26 l0 x3_1).f2.f2) ((rd_T26 l0 x3_1).f2.f3) ((rd_T26 l0 x3_1).f2.f4) ((rd_T26 l0 x3_1).f2.f5) ((rd_T26 l0 x3_1).f2.f6) ((rd_T26 l0 x3_1).f2.f7))))) else (arraslaw3_PointNumbers.j6 k5 l0 x3_1 x8_5 true ((rd_T26 l0 x3_1).f0) ((rd_T26 l0 x3_1).f1) ((rd_T26 l0 x3_1).f2.f0) ((rd_T26 l0 x3_1).f2.f1) ((rd_T26 l0 x3_1).f2.f2) ((rd_T26 l0 x3_1).f2.f3) ((rd_T26 l0 x3_1).f2.f4) ((rd_T26 l0 x3_1).f2.f5) ((rd_T26 l0 x3_1).f2.f6) ((rd_T26 l0 x3_1).f2.f7)))) else ((arraslaw3_num.f bt167.2.2).bind fun t175 => (if t175 = 1 then (if bt167.1 = 0 then (if bt167.2.1 = 0 then ((arraslaw3_num.f bt171.2).bind fun t176 => (arraslaw3_PointNumbers.j5 k5 l0 x3_1 x8_5 (t176 != 1) ((rd_T26 l0 x3_1).f0) ((rd_T26 l0 x3_1).f1) ((rd_T26 l0 x3_1).f2.f0) ((rd_T26 l0 x3_1).f2.f1) ((rd_T26 l0 x3_1).f2.f2) ((rd_T26 l0 x3_1).f2.f3) ((rd_T26 l0 x3_1).f2.f4) ((rd_T26 l0 x3_1).f2.f5) ((rd_T26 l0 x3_1).f2.f6) ((rd_T26 l0 x3_1).f2.f7))) else (arraslaw3_PointNumbers.j5 k5 l0 x3_1 x8_5 true ((rd_T26 l0 x3_1).f0) ((rd_T26 l0 x3_1).f1) ((rd_T26 l0 x3_1).f2.f0) ((rd_T26 l0 x3_1).f2.f1) ((rd_T26 l0 x3_1).f2.f2) ((rd_T26 l0 x3_1).f2.f3) ((rd_T26 l0 x3_1).f2.f4) ((rd_T26 l0 x3_1).f2.f5) ((rd_T26 l0 x3_1).f2.f6) ((rd_T26 l0 x3_1).f2.f7))) else (arraslaw3_PointNumbers.j5 k5 l0 x3_1 x8_5 true ((rd_T26 l0 x3_1).f0) ((rd_T26 l0 x3_1).f1) ((rd_T26 l0 x3_1).f2.f0) ((rd_T26 l0 x3_1).f2.f1) ((rd_T26 l0 x3_1).f2.f2) ((rd_T26 l0 x3_1).f2.f3) ((rd_T26 l0 x3_1).f2.f4) ((rd_T26 l0 x3_1).f2.f5) ((rd_T26 l0 x3_1).f2.f6) ((rd_T26 l0 x3_1).f2.f7))) else (arraslaw3_PointNumbers.j5 k5 l0 x3_1 x8_5 true ((rd_T26 l0 x3_1).f0) ((rd_T26 l0 x3_1).f1) ((rd_T26 l0 x3_1).f2.f0) ((rd_T26 l0 x3_1).f2.f1) ((rd_T26 l0 x3_1).f2.f2) ((rd_T26 l0 x3_1).f2.f3) ((rd_T26 l0 x3_1).f2.f4) ((rd_T26 l0 x3_1).f2.f5) ((rd_T26 l0 x3_1).f2.f6) ((rd_T26 l0 x3_1).f2.f7)))))))))) = some r := H
                have A28 := Aside0.mk A280; clear A280
                replace H := Option.bind_eq_some_iff.mp H
                obtain ⟨⟨t167, t168, t169⟩, A290, H⟩ := H
                replace H : ((arraslaw3_Ask_c.f ((rd_T26 l0 x3_1).f0) ((rd_T26 l0 x3_1).f1) ((rd_T26 l0 x3_1).f2.f0) ((rd_T26 l0 x3_1).f2.f1) ((rd_T26 l0 x3_1).f2.f2) ((rd_T26 l0 x3_1).f2.f3) ((rd_T26 l0 x3_1).f2.f4) ((rd_T26 l0 x3_1).f2.f5) ((rd_T26 l0 x3_1).f2.f6) ((rd_T26 l0 x3_1).f2.f7) x8_5).bind fun t170 => ((point_Turn.f k5 t170).bind fun bt171 => ((arraslaw3_Ask_c.f ((rd_T26 l0 x3_1).f0) ((rd_T26 l0 x3_1).f1) ((rd_T26 l0 x3_1).f2.f0) ((rd_T26 l0 x3_1).f2.f1) ((rd_T26 l0 x3_1).f2.f2) ((rd_T26 l0 x3_1).f2.f3) ((rd_T26 l0 x3_1).f2.f4) ((rd_T26 l0 x3_1).f2.f5) ((rd_T26 l0 x3_1).f2.f6) ((rd_T26 l0 x3_1).f2.f7) x8_5).bind fun t173 => ((arrasref3_Point.f t173).bind fun t174 => (if t174 = true then ((arraslaw3_num.f t169).bind fun t177 => (if t177 = 0 then ((arraslaw3_Ask_c.f ((rd_T26 l0 x3_1).f0) ((rd_T26 l0 x3_1).f1) ((rd_T26 l0 x3_1).f2.f0) ((rd_T26 l0 x3_1).f2.f1) ((rd_T26 l0 x3_1).f2.f2) ((rd_T26 l0 x3_1).f2.f3) ((rd_T26 l0 x3_1).f2.f4) ((rd_T26 l0 x3_1).f2.f5) ((rd_T26 l0 x3_1).f2.f6) ((rd_T26 l0 x3_1).f2.f7) x8_5).bind fun t178 => ((arrasref3_X.f t178).bind fun t179 => (if t167 = t179 then ((arraslaw3_Ask_c.f ((rd_T26 l0 x3_1).f0) ((rd_T26 l0 x3_1).f1) ((rd_T26 l0 x3_1).f2.f0) ((rd_T26 l0 x3_1).f2.f1) ((rd_T26 l0 x3_1).f2.f2) ((rd_T26 l0 x3_1).f2.f3) ((rd_T26 l0 x3_1).f2.f4) ((rd_T26 l0 x3_1).f2.f5) ((rd_T26 l0 x3_1).f2.f6) ((rd_T26 l0 x3_1).f2.f7) x8_5).bind fun t180 => ((arrasref3_Y.f t180).bind fun t181 => (if t168 = t181 then ((arrasref3_Of.f t168 t167).bind fun t182 => ((arraslaw3_told.f bt171.1 bt171.2 true t182).bind fun t183 => (arraslaw3_PointNumbers.j6 k5 l0 x3_1 x8_5 (!t183) ((rd_T26 l0 x3_1).f0) ((rd_T26 l0 x3_1).f1) ((rd_T26 l0 x3_1).f2.f0) ((rd_T26 l0 x3_1).f2.f1) ((rd_T26 l0 x3_1).f2.f2) ((rd_T26 l0 x3_1).f2.f3) ((rd_T26 l0 x3_1).f2.f4) ((rd_T26 l0 x3_1).f2.f5) ((rd_T26 l0 x3_1).f2.f6) ((rd_T26 l0 x3_1).f2.f7)))) else (arraslaw3_PointNumbers.j6 k5 l0 x3_1 x8_5 true ((rd_T26 l0 x3_1).f0) ((rd_T26 l0 x3_1).f1) ((rd_T26 l0 x3_1).f2.f0) ((rd_T26 l0 x3_1).f2.f1) ((rd_T26 l0 x3_1).f2.f2) ((rd_T26 l0 x3_1).f2.f3) ((rd_T26 l0 x3_1).f2.f4) ((rd_T26 l0 x3_1).f2.f5) ((rd_T26 l0 x3_1).f2.f6) ((rd_T26 l0 x3_1).f2.f7))))) else (arraslaw3_PointNumbers.j6 k5 l0 x3_1 x8_5 true ((rd_T26 l0 x3_1).f0) ((rd_T26 l0 x3_1).f1) ((rd_T26 l0 x3_1).f2.f0) ((rd_T26 l0 x3_1).f2.f1) ((rd_T26 l0 x3_1).f2.f2) ((rd_T26 l0 x3_1).f2.f3) ((rd_T26 l0 x3_1).f2.f4) ((rd_T26 l0 x3_1).f2.f5) ((rd_T26 l0 x3_1).f2.f6) ((rd_T26 l0 x3_1).f2.f7))))) else (arraslaw3_PointNumbers.j6 k5 l0 x3_1 x8_5 true ((rd_T26 l0 x3_1).f0) ((rd_T26 l0 x3_1).f1) ((rd_T26 l0 x3_1).f2.f0) ((rd_T26 l0 x3_1).f2.f1) ((rd_T26 l0 x3_1).f2.f2) ((rd_T26 l0 x3_1).f2.f3) ((rd_T26 l0 x3_1).f2.f4) ((rd_T26 l0 x3_1).f2.f5) ((rd_T26 l0 x3_1).f2.f6) ((rd_T26 l0 x3_1).f2.f7)))) else ((arraslaw3_num.f t169).bind fun t175 => (if t175 = 1 then (if t167 = 0 then (if t168 = 0 then ((arraslaw3_num.f bt171.2).bind fun t176 => (arraslaw3_PointNumbers.j5 k5 l0 x3_1 x8_5 (t176 != 1) ((rd_T26 l0 x3_1).f0) ((rd_T26 l0 x3_1).f1) ((rd_T26 l0 x3_1).f2.f0) ((rd_T26 l0 x3_1).f2.f1) ((rd_T26 l0 x3_1).f2.f2) ((rd_T26 l0 x3_1).f2.f3) ((rd_T26 l0 x3_1).f2.f4) ((rd_T26 l0 x3_1).f2.f5) ((rd_T26 l0 x3_1).f2.f6) ((rd_T26 l0 x3_1).f2.f7))) else (arraslaw3_PointNumbers.j5 k5 l0 x3_1 x8_5 true ((rd_T26 l0 x3_1).f0) ((rd_T26 l0 x3_1).f1) ((rd_T26 l0 x3_1).f2.f0) ((rd_T26 l0 x3_1).f2.f1) ((rd_T26 l0 x3_1).f2.f2) ((rd_T26 l0 x3_1).f2.f3) ((rd_T26 l0 x3_1).f2.f4) ((rd_T26 l0 x3_1).f2.f5) ((rd_T26 l0 x3_1).f2.f6) ((rd_T26 l0 x3_1).f2.f7))) else (arraslaw3_PointNumbers.j5 k5 l0 x3_1 x8_5 true ((rd_T26 l0 x3_1).f0) ((rd_T26 l0 x3_1).f1) ((rd_T26 l0 x3_1).f2.f0) ((rd_T26 l0 x3_1).f2.f1) ((rd_T26 l0 x3_1).f2.f2) ((rd_T26 l0 x3_1).f2.f3) ((rd_T26 l0 x3_1).f2.f4) ((rd_T26 l0 x3_1).f2.f5) ((rd_T26 l0 x3_1).f2.f6) ((rd_T26 l0 x3_1).f2.f7))) else (arraslaw3_PointNumbers.j5 k5 l0 x3_1 x8_5 true ((rd_T26 l0 x3_1).f0) ((rd_T26 l0 x3_1).f1) ((rd_T26 l0 x3_1).f2.f0) ((rd_T26 l0 x3_1).f2.f1) ((rd_T26 l0 x3_1).f2.f2) ((rd_T26 l0 x3_1).f2.f3) ((rd_T26 l0 x3_1).f2.f4) ((rd_T26 l0 x3_1).f2.f5) ((rd_T26 l0 x3_1).f2.f6) ((rd_T26 l0 x3_1).f2.f7))))))))) = some r := H
                have A29 := Aside0.mk A290; clear A290
                replace H := Option.bind_eq_some_iff.mp H
                obtain ⟨t170, A300, H⟩ := H
                replace H : ((point_Turn.f k5 t170).bind fun bt171 => ((arraslaw3_Ask_c.f ((rd_T26 l0 x3_1).f0) ((rd_T26 l0 x3_1).f1) ((rd_T26 l0 x3_1).f2.f0) ((rd_T26 l0 x3_1).f2.f1) ((rd_T26 l0 x3_1).f2.f2) ((rd_T26 l0 x3_1).f2.f3) ((rd_T26 l0 x3_1).f2.f4) ((rd_T26 l0 x3_1).f2.f5) ((rd_T26 l0 x3_1).f2.f6) ((rd_T26 l0 x3_1).f2.f7) x8_5).bind fun t173 => ((arrasref3_Point.f t173).bind fun t174 => (if t174 = true then ((arraslaw3_num.f t169).bind fun t177 => (if t177 = 0 then ((arraslaw3_Ask_c.f ((rd_T26 l0 x3_1).f0) ((rd_T26 l0 x3_1).f1) ((rd_T26 l0 x3_1).f2.f0) ((rd_T26 l0 x3_1).f2.f1) ((rd_T26 l0 x3_1).f2.f2) ((rd_T26 l0 x3_1).f2.f3) ((rd_T26 l0 x3_1).f2.f4) ((rd_T26 l0 x3_1).f2.f5) ((rd_T26 l0 x3_1).f2.f6) ((rd_T26 l0 x3_1).f2.f7) x8_5).bind fun t178 => ((arrasref3_X.f t178).bind fun t179 => (if t167 = t179 then ((arraslaw3_Ask_c.f ((rd_T26 l0 x3_1).f0) ((rd_T26 l0 x3_1).f1) ((rd_T26 l0 x3_1).f2.f0) ((rd_T26 l0 x3_1).f2.f1) ((rd_T26 l0 x3_1).f2.f2) ((rd_T26 l0 x3_1).f2.f3) ((rd_T26 l0 x3_1).f2.f4) ((rd_T26 l0 x3_1).f2.f5) ((rd_T26 l0 x3_1).f2.f6) ((rd_T26 l0 x3_1).f2.f7) x8_5).bind fun t180 => ((arrasref3_Y.f t180).bind fun t181 => (if t168 = t181 then ((arrasref3_Of.f t168 t167).bind fun t182 => ((arraslaw3_told.f bt171.1 bt171.2 true t182).bind fun t183 => (arraslaw3_PointNumbers.j6 k5 l0 x3_1 x8_5 (!t183) ((rd_T26 l0 x3_1).f0) ((rd_T26 l0 x3_1).f1) ((rd_T26 l0 x3_1).f2.f0) ((rd_T26 l0 x3_1).f2.f1) ((rd_T26 l0 x3_1).f2.f2) ((rd_T26 l0 x3_1).f2.f3) ((rd_T26 l0 x3_1).f2.f4) ((rd_T26 l0 x3_1).f2.f5) ((rd_T26 l0 x3_1).f2.f6) ((rd_T26 l0 x3_1).f2.f7)))) else (arraslaw3_PointNumbers.j6 k5 l0 x3_1 x8_5 true ((rd_T26 l0 x3_1).f0) ((rd_T26 l0 x3_1).f1) ((rd_T26 l0 x3_1).f2.f0) ((rd_T26 l0 x3_1).f2.f1) ((rd_T26 l0 x3_1).f2.f2) ((rd_T26 l0 x3_1).f2.f3) ((rd_T26 l0 x3_1).f2.f4) ((rd_T26 l0 x3_1).f2.f5) ((rd_T26 l0 x3_1).f2.f6) ((rd_T26 l0 x3_1).f2.f7))))) else (arraslaw3_PointNumbers.j6 k5 l0 x3_1 x8_5 true ((rd_T26 l0 x3_1).f0) ((rd_T26 l0 x3_1).f1) ((rd_T26 l0 x3_1).f2.f0) ((rd_T26 l0 x3_1).f2.f1) ((rd_T26 l0 x3_1).f2.f2) ((rd_T26 l0 x3_1).f2.f3) ((rd_T26 l0 x3_1).f2.f4) ((rd_T26 l0 x3_1).f2.f5) ((rd_T26 l0 x3_1).f2.f6) ((rd_T26 l0 x3_1).f2.f7))))) else (arraslaw3_PointNumbers.j6 k5 l0 x3_1 x8_5 true ((rd_T26 l0 x3_1).f0) ((rd_T26 l0 x3_1).f1) ((rd_T26 l0 x3_1).f2.f0) ((rd_T26 l0 x3_1).f2.f1) ((rd_T26 l0 x3_1).f2.f2) ((rd_T26 l0 x3_1).f2.f3) ((rd_T26 l0 x3_1).f2.f4) ((rd_T26 l0 x3_1).f2.f5) ((rd_T26 l0 x3_1).f2.f6) ((rd_T26 l0 x3_1).f2.f7)))) else ((arraslaw3_num.f t169).bind fun t175 => (if t175 = 1 then (if t167 = 0 then (if t168 = 0 then ((arraslaw3_num.f bt171.2).bind fun t176 => (arraslaw3_PointNumbers.j5 k5 l0 x3_1 x8_5 (t176 != 1) ((rd_T26 l0 x3_1).f0) ((rd_T26 l0 x3_1).f1) ((rd_T26 l0 x3_1).f2.f0) ((rd_T26 l0 x3_1).f2.f1) ((rd_T26 l0 x3_1).f2.f2) ((rd_T26 l0 x3_1).f2.f3) ((rd_T26 l0 x3_1).f2.f4) ((rd_T26 l0 x3_1).f2.f5) ((rd_T26 l0 x3_1).f2.f6) ((rd_T26 l0 x3_1).f2.f7))) else (arraslaw3_PointNumbers.j5 k5 l0 x3_1 x8_5 true ((rd_T26 l0 x3_1).f0) ((rd_T26 l0 x3_1).f1) ((rd_T26 l0 x3_1).f2.f0) ((rd_T26 l0 x3_1).f2.f1) ((rd_T26 l0 x3_1).f2.f2) ((rd_T26 l0 x3_1).f2.f3) ((rd_T26 l0 x3_1).f2.f4) ((rd_T26 l0 x3_1).f2.f5) ((rd_T26 l0 x3_1).f2.f6) ((rd_T26 l0 x3_1).f2.f7))) else (arraslaw3_PointNumbers.j5 k5 l0 x3_1 x8_5 true ((rd_T26 l0 x3_1).f0) ((rd_T26 l0 x3_1).f1) ((rd_T26 l0 x3_1).f2.f0) ((rd_T26 l0 x3_1).f2.f1) ((rd_T26 l0 x3_1).f2.f2) ((rd_T26 l0 x3_1).f2.f3) ((rd_T26 l0 x3_1).f2.f4) ((rd_T26 l0 x3_1).f2.f5) ((rd_T26 l0 x3_1).f2.f6) ((rd_T26 l0 x3_1).f2.f7))) else (arraslaw3_PointNumbers.j5 k5 l0 x3_1 x8_5 true ((rd_T26 l0 x3_1).f0) ((rd_T26 l0 x3_1).f1) ((rd_T26 l0 x3_1).f2.f0) ((rd_T26 l0 x3_1).f2.f1) ((rd_T26 l0 x3_1).f2.f2) ((rd_T26 l0 x3_1).f2.f3) ((rd_T26 l0 x3_1).f2.f4) ((rd_T26 l0 x3_1).f2.f5) ((rd_T26 l0 x3_1).f2.f6) ((rd_T26 l0 x3_1).f2.f7)))))))) = some r := H
                have A30 := Aside0.mk A300; clear A300
                replace H := Option.bind_eq_some_iff.mp H
                obtain ⟨⟨t171, t172⟩, A310, H⟩ := H
                replace H : ((arraslaw3_Ask_c.f ((rd_T26 l0 x3_1).f0) ((rd_T26 l0 x3_1).f1) ((rd_T26 l0 x3_1).f2.f0) ((rd_T26 l0 x3_1).f2.f1) ((rd_T26 l0 x3_1).f2.f2) ((rd_T26 l0 x3_1).f2.f3) ((rd_T26 l0 x3_1).f2.f4) ((rd_T26 l0 x3_1).f2.f5) ((rd_T26 l0 x3_1).f2.f6) ((rd_T26 l0 x3_1).f2.f7) x8_5).bind fun t173 => ((arrasref3_Point.f t173).bind fun t174 => (if t174 = true then ((arraslaw3_num.f t169).bind fun t177 => (if t177 = 0 then ((arraslaw3_Ask_c.f ((rd_T26 l0 x3_1).f0) ((rd_T26 l0 x3_1).f1) ((rd_T26 l0 x3_1).f2.f0) ((rd_T26 l0 x3_1).f2.f1) ((rd_T26 l0 x3_1).f2.f2) ((rd_T26 l0 x3_1).f2.f3) ((rd_T26 l0 x3_1).f2.f4) ((rd_T26 l0 x3_1).f2.f5) ((rd_T26 l0 x3_1).f2.f6) ((rd_T26 l0 x3_1).f2.f7) x8_5).bind fun t178 => ((arrasref3_X.f t178).bind fun t179 => (if t167 = t179 then ((arraslaw3_Ask_c.f ((rd_T26 l0 x3_1).f0) ((rd_T26 l0 x3_1).f1) ((rd_T26 l0 x3_1).f2.f0) ((rd_T26 l0 x3_1).f2.f1) ((rd_T26 l0 x3_1).f2.f2) ((rd_T26 l0 x3_1).f2.f3) ((rd_T26 l0 x3_1).f2.f4) ((rd_T26 l0 x3_1).f2.f5) ((rd_T26 l0 x3_1).f2.f6) ((rd_T26 l0 x3_1).f2.f7) x8_5).bind fun t180 => ((arrasref3_Y.f t180).bind fun t181 => (if t168 = t181 then ((arrasref3_Of.f t168 t167).bind fun t182 => ((arraslaw3_told.f t171 t172 true t182).bind fun t183 => (arraslaw3_PointNumbers.j6 k5 l0 x3_1 x8_5 (!t183) ((rd_T26 l0 x3_1).f0) ((rd_T26 l0 x3_1).f1) ((rd_T26 l0 x3_1).f2.f0) ((rd_T26 l0 x3_1).f2.f1) ((rd_T26 l0 x3_1).f2.f2) ((rd_T26 l0 x3_1).f2.f3) ((rd_T26 l0 x3_1).f2.f4) ((rd_T26 l0 x3_1).f2.f5) ((rd_T26 l0 x3_1).f2.f6) ((rd_T26 l0 x3_1).f2.f7)))) else (arraslaw3_PointNumbers.j6 k5 l0 x3_1 x8_5 true ((rd_T26 l0 x3_1).f0) ((rd_T26 l0 x3_1).f1) ((rd_T26 l0 x3_1).f2.f0) ((rd_T26 l0 x3_1).f2.f1) ((rd_T26 l0 x3_1).f2.f2) ((rd_T26 l0 x3_1).f2.f3) ((rd_T26 l0 x3_1).f2.f4) ((rd_T26 l0 x3_1).f2.f5) ((rd_T26 l0 x3_1).f2.f6) ((rd_T26 l0 x3_1).f2.f7))))) else (arraslaw3_PointNumbers.j6 k5 l0 x3_1 x8_5 true ((rd_T26 l0 x3_1).f0) ((rd_T26 l0 x3_1).f1) ((rd_T26 l0 x3_1).f2.f0) ((rd_T26 l0 x3_1).f2.f1) ((rd_T26 l0 x3_1).f2.f2) ((rd_T26 l0 x3_1).f2.f3) ((rd_T26 l0 x3_1).f2.f4) ((rd_T26 l0 x3_1).f2.f5) ((rd_T26 l0 x3_1).f2.f6) ((rd_T26 l0 x3_1).f2.f7))))) else (arraslaw3_PointNumbers.j6 k5 l0 x3_1 x8_5 true ((rd_T26 l0 x3_1).f0) ((rd_T26 l0 x3_1).f1) ((rd_T26 l0 x3_1).f2.f0) ((rd_T26 l0 x3_1).f2.f1) ((rd_T26 l0 x3_1).f2.f2) ((rd_T26 l0 x3_1).f2.f3) ((rd_T26 l0 x3_1).f2.f4) ((rd_T26 l0 x3_1).f2.f5) ((rd_T26 l0 x3_1).f2.f6) ((rd_T26 l0 x3_1).f2.f7)))) else ((arraslaw3_num.f t169).bind fun t175 => (if t175 = 1 then (if t167 = 0 then (if t168 = 0 then ((arraslaw3_num.f t172).bind fun t176 => (arraslaw3_PointNumbers.j5 k5 l0 x3_1 x8_5 (t176 != 1) ((rd_T26 l0 x3_1).f0) ((rd_T26 l0 x3_1).f1) ((rd_T26 l0 x3_1).f2.f0) ((rd_T26 l0 x3_1).f2.f1) ((rd_T26 l0 x3_1).f2.f2) ((rd_T26 l0 x3_1).f2.f3) ((rd_T26 l0 x3_1).f2.f4) ((rd_T26 l0 x3_1).f2.f5) ((rd_T26 l0 x3_1).f2.f6) ((rd_T26 l0 x3_1).f2.f7))) else (arraslaw3_PointNumbers.j5 k5 l0 x3_1 x8_5 true ((rd_T26 l0 x3_1).f0) ((rd_T26 l0 x3_1).f1) ((rd_T26 l0 x3_1).f2.f0) ((rd_T26 l0 x3_1).f2.f1) ((rd_T26 l0 x3_1).f2.f2) ((rd_T26 l0 x3_1).f2.f3) ((rd_T26 l0 x3_1).f2.f4) ((rd_T26 l0 x3_1).f2.f5) ((rd_T26 l0 x3_1).f2.f6) ((rd_T26 l0 x3_1).f2.f7))) else (arraslaw3_PointNumbers.j5 k5 l0 x3_1 x8_5 true ((rd_T26 l0 x3_1).f0) ((rd_T26 l0 x3_1).f1) ((rd_T26 l0 x3_1).f2.f0) ((rd_T26 l0 x3_1).f2.f1) ((rd_T26 l0 x3_1).f2.f2) ((rd_T26 l0 x3_1).f2.f3) ((rd_T26 l0 x3_1).f2.f4) ((rd_T26 l0 x3_1).f2.f5) ((rd_T26 l0 x3_1).f2.f6) ((rd_T26 l0 x3_1).f2.f7))) else (arraslaw3_PointNumbers.j5 k5 l0 x3_1 x8_5 true ((rd_T26 l0 x3_1).f0) ((rd_T26 l0 x3_1).f1) ((rd_T26 l0 x3_1).f2.f0) ((rd_T26 l0 x3_1).f2.f1) ((rd_T26 l0 x3_1).f2.f2) ((rd_T26 l0 x3_1).f2.f3) ((rd_T26 l0 x3_1).f2.f4) ((rd_T26 l0 x3_1).f2.f5) ((rd_T26 l0 x3_1).f2.f6) ((rd_T26 l0 x3_1).f2.f7))))))) = some r := H
                have A31 := Aside0.mk A310; clear A310
                replace H := Option.bind_eq_some_iff.mp H
                obtain ⟨t173, A320, H⟩ := H
                replace H : ((arrasref3_Point.f t173).bind fun t174 => (if t174 = true then ((arraslaw3_num.f t169).bind fun t177 => (if t177 = 0 then ((arraslaw3_Ask_c.f ((rd_T26 l0 x3_1).f0) ((rd_T26 l0 x3_1).f1) ((rd_T26 l0 x3_1).f2.f0) ((rd_T26 l0 x3_1).f2.f1) ((rd_T26 l0 x3_1).f2.f2) ((rd_T26 l0 x3_1).f2.f3) ((rd_T26 l0 x3_1).f2.f4) ((rd_T26 l0 x3_1).f2.f5) ((rd_T26 l0 x3_1).f2.f6) ((rd_T26 l0 x3_1).f2.f7) x8_5).bind fun t178 => ((arrasref3_X.f t178).bind fun t179 => (if t167 = t179 then ((arraslaw3_Ask_c.f ((rd_T26 l0 x3_1).f0) ((rd_T26 l0 x3_1).f1) ((rd_T26 l0 x3_1).f2.f0) ((rd_T26 l0 x3_1).f2.f1) ((rd_T26 l0 x3_1).f2.f2) ((rd_T26 l0 x3_1).f2.f3) ((rd_T26 l0 x3_1).f2.f4) ((rd_T26 l0 x3_1).f2.f5) ((rd_T26 l0 x3_1).f2.f6) ((rd_T26 l0 x3_1).f2.f7) x8_5).bind fun t180 => ((arrasref3_Y.f t180).bind fun t181 => (if t168 = t181 then ((arrasref3_Of.f t168 t167).bind fun t182 => ((arraslaw3_told.f t171 t172 true t182).bind fun t183 => (arraslaw3_PointNumbers.j6 k5 l0 x3_1 x8_5 (!t183) ((rd_T26 l0 x3_1).f0) ((rd_T26 l0 x3_1).f1) ((rd_T26 l0 x3_1).f2.f0) ((rd_T26 l0 x3_1).f2.f1) ((rd_T26 l0 x3_1).f2.f2) ((rd_T26 l0 x3_1).f2.f3) ((rd_T26 l0 x3_1).f2.f4) ((rd_T26 l0 x3_1).f2.f5) ((rd_T26 l0 x3_1).f2.f6) ((rd_T26 l0 x3_1).f2.f7)))) else (arraslaw3_PointNumbers.j6 k5 l0 x3_1 x8_5 true ((rd_T26 l0 x3_1).f0) ((rd_T26 l0 x3_1).f1) ((rd_T26 l0 x3_1).f2.f0) ((rd_T26 l0 x3_1).f2.f1) ((rd_T26 l0 x3_1).f2.f2) ((rd_T26 l0 x3_1).f2.f3) ((rd_T26 l0 x3_1).f2.f4) ((rd_T26 l0 x3_1).f2.f5) ((rd_T26 l0 x3_1).f2.f6) ((rd_T26 l0 x3_1).f2.f7))))) else (arraslaw3_PointNumbers.j6 k5 l0 x3_1 x8_5 true ((rd_T26 l0 x3_1).f0) ((rd_T26 l0 x3_1).f1) ((rd_T26 l0 x3_1).f2.f0) ((rd_T26 l0 x3_1).f2.f1) ((rd_T26 l0 x3_1).f2.f2) ((rd_T26 l0 x3_1).f2.f3) ((rd_T26 l0 x3_1).f2.f4) ((rd_T26 l0 x3_1).f2.f5) ((rd_T26 l0 x3_1).f2.f6) ((rd_T26 l0 x3_1).f2.f7))))) else (arraslaw3_PointNumbers.j6 k5 l0 x3_1 x8_5 true ((rd_T26 l0 x3_1).f0) ((rd_T26 l0 x3_1).f1) ((rd_T26 l0 x3_1).f2.f0) ((rd_T26 l0 x3_1).f2.f1) ((rd_T26 l0 x3_1).f2.f2) ((rd_T26 l0 x3_1).f2.f3) ((rd_T26 l0 x3_1).f2.f4) ((rd_T26 l0 x3_1).f2.f5) ((rd_T26 l0 x3_1).f2.f6) ((rd_T26 l0 x3_1).f2.f7)))) else ((arraslaw3_num.f t169).bind fun t175 => (if t175 = 1 then (if t167 = 0 then (if t168 = 0 then ((arraslaw3_num.f t172).bind fun t176 => (arraslaw3_PointNumbers.j5 k5 l0 x3_1 x8_5 (t176 != 1) ((rd_T26 l0 x3_1).f0) ((rd_T26 l0 x3_1).f1) ((rd_T26 l0 x3_1).f2.f0) ((rd_T26 l0 x3_1).f2.f1) ((rd_T26 l0 x3_1).f2.f2) ((rd_T26 l0 x3_1).f2.f3) ((rd_T26 l0 x3_1).f2.f4) ((rd_T26 l0 x3_1).f2.f5) ((rd_T26 l0 x3_1).f2.f6) ((rd_T26 l0 x3_1).f2.f7))) else (arraslaw3_PointNumbers.j5 k5 l0 x3_1 x8_5 true ((rd_T26 l0 x3_1).f0) ((rd_T26 l0 x3_1).f1) ((rd_T26 l0 x3_1).f2.f0) ((rd_T26 l0 x3_1).f2.f1) ((rd_T26 l0 x3_1).f2.f2) ((rd_T26 l0 x3_1).f2.f3) ((rd_T26 l0 x3_1).f2.f4) ((rd_T26 l0 x3_1).f2.f5) ((rd_T26 l0 x3_1).f2.f6) ((rd_T26 l0 x3_1).f2.f7))) else (arraslaw3_PointNumbers.j5 k5 l0 x3_1 x8_5 true ((rd_T26 l0 x3_1).f0) ((rd_T26 l0 x3_1).f1) ((rd_T26 l0 x3_1).f2.f0) ((rd_T26 l0 x3_1).f2.f1) ((rd_T26 l0 x3_1).f2.f2) ((rd_T26 l0 x3_1).f2.f3) ((rd_T26 l0 x3_1).f2.f4) ((rd_T26 l0 x3_1).f2.f5) ((rd_T26 l0 x3_1).f2.f6) ((rd_T26 l0 x3_1).f2.f7))) else (arraslaw3_PointNumbers.j5 k5 l0 x3_1 x8_5 true ((rd_T26 l0 x3_1).f0) ((rd_T26 l0 x3_1).f1) ((rd_T26 l0 x3_1).f2.f0) ((rd_T26 l0 x3_1).f2.f1) ((rd_T26 l0 x3_1).f2.f2) ((rd_T26 l0 x3_1).f2.f3) ((rd_T26 l0 x3_1).f2.f4) ((rd_T26 l0 x3_1).f2.f5) ((rd_T26 l0 x3_1).f2.f6) ((rd_T26 l0 x3_1).f2.f7)))))) = some r := H
                have A32 := Aside0.mk A320; clear A320
                replace H := Option.bind_eq_some_iff.mp H
                obtain ⟨t174, A330, H⟩ := H
                replace H : (if t174 = true then ((arraslaw3_num.f t169).bind fun t177 => (if t177 = 0 then ((arraslaw3_Ask_c.f ((rd_T26 l0 x3_1).f0) ((rd_T26 l0 x3_1).f1) ((rd_T26 l0 x3_1).f2.f0) ((rd_T26 l0 x3_1).f2.f1) ((rd_T26 l0 x3_1).f2.f2) ((rd_T26 l0 x3_1).f2.f3) ((rd_T26 l0 x3_1).f2.f4) ((rd_T26 l0 x3_1).f2.f5) ((rd_T26 l0 x3_1).f2.f6) ((rd_T26 l0 x3_1).f2.f7) x8_5).bind fun t178 => ((arrasref3_X.f t178).bind fun t179 => (if t167 = t179 then ((arraslaw3_Ask_c.f ((rd_T26 l0 x3_1).f0) ((rd_T26 l0 x3_1).f1) ((rd_T26 l0 x3_1).f2.f0) ((rd_T26 l0 x3_1).f2.f1) ((rd_T26 l0 x3_1).f2.f2) ((rd_T26 l0 x3_1).f2.f3) ((rd_T26 l0 x3_1).f2.f4) ((rd_T26 l0 x3_1).f2.f5) ((rd_T26 l0 x3_1).f2.f6) ((rd_T26 l0 x3_1).f2.f7) x8_5).bind fun t180 => ((arrasref3_Y.f t180).bind fun t181 => (if t168 = t181 then ((arrasref3_Of.f t168 t167).bind fun t182 => ((arraslaw3_told.f t171 t172 true t182).bind fun t183 => (arraslaw3_PointNumbers.j6 k5 l0 x3_1 x8_5 (!t183) ((rd_T26 l0 x3_1).f0) ((rd_T26 l0 x3_1).f1) ((rd_T26 l0 x3_1).f2.f0) ((rd_T26 l0 x3_1).f2.f1) ((rd_T26 l0 x3_1).f2.f2) ((rd_T26 l0 x3_1).f2.f3) ((rd_T26 l0 x3_1).f2.f4) ((rd_T26 l0 x3_1).f2.f5) ((rd_T26 l0 x3_1).f2.f6) ((rd_T26 l0 x3_1).f2.f7)))) else (arraslaw3_PointNumbers.j6 k5 l0 x3_1 x8_5 true ((rd_T26 l0 x3_1).f0) ((rd_T26 l0 x3_1).f1) ((rd_T26 l0 x3_1).f2.f0) ((rd_T26 l0 x3_1).f2.f1) ((rd_T26 l0 x3_1).f2.f2) ((rd_T26 l0 x3_1).f2.f3) ((rd_T26 l0 x3_1).f2.f4) ((rd_T26 l0 x3_1).f2.f5) ((rd_T26 l0 x3_1).f2.f6) ((rd_T26 l0 x3_1).f2.f7))))) else (arraslaw3_PointNumbers.j6 k5 l0 x3_1 x8_5 true ((rd_T26 l0 x3_1).f0) ((rd_T26 l0 x3_1).f1) ((rd_T26 l0 x3_1).f2.f0) ((rd_T26 l0 x3_1).f2.f1) ((rd_T26 l0 x3_1).f2.f2) ((rd_T26 l0 x3_1).f2.f3) ((rd_T26 l0 x3_1).f2.f4) ((rd_T26 l0 x3_1).f2.f5) ((rd_T26 l0 x3_1).f2.f6) ((rd_T26 l0 x3_1).f2.f7))))) else (arraslaw3_PointNumbers.j6 k5 l0 x3_1 x8_5 true ((rd_T26 l0 x3_1).f0) ((rd_T26 l0 x3_1).f1) ((rd_T26 l0 x3_1).f2.f0) ((rd_T26 l0 x3_1).f2.f1) ((rd_T26 l0 x3_1).f2.f2) ((rd_T26 l0 x3_1).f2.f3) ((rd_T26 l0 x3_1).f2.f4) ((rd_T26 l0 x3_1).f2.f5) ((rd_T26 l0 x3_1).f2.f6) ((rd_T26 l0 x3_1).f2.f7)))) else ((arraslaw3_num.f t169).bind fun t175 => (if t175 = 1 then (if t167 = 0 then (if t168 = 0 then ((arraslaw3_num.f t172).bind fun t176 => (arraslaw3_PointNumbers.j5 k5 l0 x3_1 x8_5 (t176 != 1) ((rd_T26 l0 x3_1).f0) ((rd_T26 l0 x3_1).f1) ((rd_T26 l0 x3_1).f2.f0) ((rd_T26 l0 x3_1).f2.f1) ((rd_T26 l0 x3_1).f2.f2) ((rd_T26 l0 x3_1).f2.f3) ((rd_T26 l0 x3_1).f2.f4) ((rd_T26 l0 x3_1).f2.f5) ((rd_T26 l0 x3_1).f2.f6) ((rd_T26 l0 x3_1).f2.f7))) else (arraslaw3_PointNumbers.j5 k5 l0 x3_1 x8_5 true ((rd_T26 l0 x3_1).f0) ((rd_T26 l0 x3_1).f1) ((rd_T26 l0 x3_1).f2.f0) ((rd_T26 l0 x3_1).f2.f1) ((rd_T26 l0 x3_1).f2.f2) ((rd_T26 l0 x3_1).f2.f3) ((rd_T26 l0 x3_1).f2.f4) ((rd_T26 l0 x3_1).f2.f5) ((rd_T26 l0 x3_1).f2.f6) ((rd_T26 l0 x3_1).f2.f7))) else (arraslaw3_PointNumbers.j5 k5 l0 x3_1 x8_5 true ((rd_T26 l0 x3_1).f0) ((rd_T26 l0 x3_1).f1) ((rd_T26 l0 x3_1).f2.f0) ((rd_T26 l0 x3_1).f2.f1) ((rd_T26 l0 x3_1).f2.f2) ((rd_T26 l0 x3_1).f2.f3) ((rd_T26 l0 x3_1).f2.f4) ((rd_T26 l0 x3_1).f2.f5) ((rd_T26 l0 x3_1).f2.f6) ((rd_T26 l0 x3_1).f2.f7))) else (arraslaw3_PointNumbers.j5 k5 l0 x3_1 x8_5 true ((rd_T26 l0 x3_1).f0) ((rd_T26 l0 x3_1).f1) ((rd_T26 l0 x3_1).f2.f0) ((rd_T26 l0 x3_1).f2.f1) ((rd_T26 l0 x3_1).f2.f2) ((rd_T26 l0 x3_1).f2.f3) ((rd_T26 l0 x3_1).f2.f4) ((rd_T26 l0 x3_1).f2.f5) ((rd_T26 l0 x3_1).f2.f6) ((rd_T26 l0 x3_1).f2.f7))))) = some r := H
                have A33 := Aside0.mk A330; clear A330
                by_cases c34 : t174 = true
                ·subst c34
                 have H1 : ((arraslaw3_num.f t169).bind fun t177 => (if t177 = 0 then ((arraslaw3_Ask_c.f ((rd_T26 l0 x3_1).f0) ((rd_T26 l0 x3_1).f1) ((rd_T26 l0 x3_1).f2.f0) ((rd_T26 l0 x3_1).f2.f1) ((rd_T26 l0 x3_1).f2.f2) ((rd_T26 l0 x3_1).f2.f3) ((rd_T26 l0 x3_1).f2.f4) ((rd_T26 l0 x3_1).f2.f5) ((rd_T26 l0 x3_1).f2.f6) ((rd_T26 l0 x3_1).f2.f7) x8_5).bind fun t178 => ((arrasref3_X.f t178).bind fun t179 => (if t167 = t179 then ((arraslaw3_Ask_c.f ((rd_T26 l0 x3_1).f0) ((rd_T26 l0 x3_1).f1) ((rd_T26 l0 x3_1).f2.f0) ((rd_T26 l0 x3_1).f2.f1) ((rd_T26 l0 x3_1).f2.f2) ((rd_T26 l0 x3_1).f2.f3) ((rd_T26 l0 x3_1).f2.f4) ((rd_T26 l0 x3_1).f2.f5) ((rd_T26 l0 x3_1).f2.f6) ((rd_T26 l0 x3_1).f2.f7) x8_5).bind fun t180 => ((arrasref3_Y.f t180).bind fun t181 => (if t168 = t181 then ((arrasref3_Of.f t168 t167).bind fun t182 => ((arraslaw3_told.f t171 t172 true t182).bind fun t183 => (arraslaw3_PointNumbers.j6 k5 l0 x3_1 x8_5 (!t183) ((rd_T26 l0 x3_1).f0) ((rd_T26 l0 x3_1).f1) ((rd_T26 l0 x3_1).f2.f0) ((rd_T26 l0 x3_1).f2.f1) ((rd_T26 l0 x3_1).f2.f2) ((rd_T26 l0 x3_1).f2.f3) ((rd_T26 l0 x3_1).f2.f4) ((rd_T26 l0 x3_1).f2.f5) ((rd_T26 l0 x3_1).f2.f6) ((rd_T26 l0 x3_1).f2.f7)))) else (arraslaw3_PointNumbers.j6 k5 l0 x3_1 x8_5 true ((rd_T26 l0 x3_1).f0) ((rd_T26 l0 x3_1).f1) ((rd_T26 l0 x3_1).f2.f0) ((rd_T26 l0 x3_1).f2.f1) ((rd_T26 l0 x3_1).f2.f2) ((rd_T26 l0 x3_1).f2.f3) ((rd_T26 l0 x3_1).f2.f4) ((rd_T26 l0 x3_1).f2.f5) ((rd_T26 l0 x3_1).f2.f6) ((rd_T26 l0 x3_1).f2.f7))))) else (arraslaw3_PointNumbers.j6 k5 l0 x3_1 x8_5 true ((rd_T26 l0 x3_1).f0) ((rd_T26 l0 x3_1).f1) ((rd_T26 l0 x3_1).f2.f0) ((rd_T26 l0 x3_1).f2.f1) ((rd_T26 l0 x3_1).f2.f2) ((rd_T26 l0 x3_1).f2.f3) ((rd_T26 l0 x3_1).f2.f4) ((rd_T26 l0 x3_1).f2.f5) ((rd_T26 l0 x3_1).f2.f6) ((rd_T26 l0 x3_1).f2.f7))))) else (arraslaw3_PointNumbers.j6 k5 l0 x3_1 x8_5 true ((rd_T26 l0 x3_1).f0) ((rd_T26 l0 x3_1).f1) ((rd_T26 l0 x3_1).f2.f0) ((rd_T26 l0 x3_1).f2.f1) ((rd_T26 l0 x3_1).f2.f2) ((rd_T26 l0 x3_1).f2.f3) ((rd_T26 l0 x3_1).f2.f4) ((rd_T26 l0 x3_1).f2.f5) ((rd_T26 l0 x3_1).f2.f6) ((rd_T26 l0 x3_1).f2.f7)))) = some r := by rw [if_pos rfl] at H; exact H
                 clear H; have H := H1; clear H1; have HC35 := Aside0.mk H; clear H
                 have hcz36_0 : wr.cell? ⟨gb158, 0, none⟩ = some (.int .i64 ((rd_T26 l0 x3_1).f0)) := (blk_cell BK158.out 0).trans rfl
                 have hcz36_1 : wr.cell? ⟨gb158, 1, none⟩ = some (.int .i64 ((rd_T26 l0 x3_1).f1)) := (blk_cell BK158.out 1).trans rfl
                 have hcz36_2 : wr.cell? ⟨gb158, 2, none⟩ = some (.float .f64 ((rd_T26 l0 x3_1).f2.f0)) := (blk_cell BK158.out 2).trans rfl
                 have hcz36_3 : wr.cell? ⟨gb158, 3, none⟩ = some (.float .f64 ((rd_T26 l0 x3_1).f2.f1)) := (blk_cell BK158.out 3).trans rfl
                 have hcz36_4 : wr.cell? ⟨gb158, 4, none⟩ = some (.float .f64 ((rd_T26 l0 x3_1).f2.f2)) := (blk_cell BK158.out 4).trans rfl
                 have hcz36_5 : wr.cell? ⟨gb158, 5, none⟩ = some (.float .f64 ((rd_T26 l0 x3_1).f2.f3)) := (blk_cell BK158.out 5).trans rfl
                 have hcz36_6 : wr.cell? ⟨gb158, 6, none⟩ = some (.float .f64 ((rd_T26 l0 x3_1).f2.f4)) := (blk_cell BK158.out 6).trans rfl
                 have hcz36_7 : wr.cell? ⟨gb158, 7, none⟩ = some (.float .f64 ((rd_T26 l0 x3_1).f2.f5)) := (blk_cell BK158.out 7).trans rfl
                 have hcz36_8 : wr.cell? ⟨gb158, 8, none⟩ = some (.float .f64 ((rd_T26 l0 x3_1).f2.f6)) := (blk_cell BK158.out 8).trans rfl
                 have hcz36_9 : wr.cell? ⟨gb158, 9, none⟩ = some (.float .f64 ((rd_T26 l0 x3_1).f2.f7)) := (blk_cell BK158.out 9).trans rfl
                 have hfz36_0 := blk_frozen BK158.out 0
                 have hfz36_1 := blk_frozen BK158.out 1
                 have hfz36_2 := blk_frozen BK158.out 2
                 have hfz36_3 := blk_frozen BK158.out 3
                 have hfz36_4 := blk_frozen BK158.out 4
                 have hfz36_5 := blk_frozen BK158.out 5
                 have hfz36_6 := blk_frozen BK158.out 6
                 have hfz36_7 := blk_frozen BK158.out 7
                 have hfz36_8 := blk_frozen BK158.out 8
                 have hfz36_9 := blk_frozen BK158.out 9
                 go_upto_region 17 with (first | ((with_reducible refine gate_callee (f := 14) rfl ?_); refine goesL_ (some 75) rfl rfl Try.func14 (by kernel_rfl) rfl #[.agg #[.int .i64 ((rd_T26 l0 x3_1).f0), .int .i64 ((rd_T26 l0 x3_1).f1), .float .f64 ((rd_T26 l0 x3_1).f2.f0), .float .f64 ((rd_T26 l0 x3_1).f2.f1), .float .f64 ((rd_T26 l0 x3_1).f2.f2), .float .f64 ((rd_T26 l0 x3_1).f2.f3), .float .f64 ((rd_T26 l0 x3_1).f2.f4), .float .f64 ((rd_T26 l0 x3_1).f2.f5), .float .f64 ((rd_T26 l0 x3_1).f2.f6), .float .f64 ((rd_T26 l0 x3_1).f2.f7)], .int .i64 x8_5] rfl (by (try simp only [List.map_toArray, List.map_cons, List.map_nil]); first | done | rfl | (simp only [List.length_drop, List.length_take]; rfl)) ?_; (with_reducible refine (arraslaw3_Ask_c.calls ((rd_T26 l0 x3_1).f0) ((rd_T26 l0 x3_1).f1) ((rd_T26 l0 x3_1).f2.f0) ((rd_T26 l0 x3_1).f2.f1) ((rd_T26 l0 x3_1).f2.f2) ((rd_T26 l0 x3_1).f2.f3) ((rd_T26 l0 x3_1).f2.f4) ((rd_T26 l0 x3_1).f2.f5) ((rd_T26 l0 x3_1).f2.f6) ((rd_T26 l0 x3_1).f2.f7) x8_5 t166 _ A28.out).mono ?_); rintro e w37 ⟨rfl, hb⟩; refine ⟨_, rfl, ?_⟩; have n0_ := Aside0.mk (blk_below (g := gb158) (o := .cells #[.int .i64 ((rd_T26 l0 x3_1).f0), .int .i64 ((rd_T26 l0 x3_1).f1), .float .f64 ((rd_T26 l0 x3_1).f2.f0), .float .f64 ((rd_T26 l0 x3_1).f2.f1), .float .f64 ((rd_T26 l0 x3_1).f2.f2), .float .f64 ((rd_T26 l0 x3_1).f2.f3), .float .f64 ((rd_T26 l0 x3_1).f2.f4), .float .f64 ((rd_T26 l0 x3_1).f2.f5), .float .f64 ((rd_T26 l0 x3_1).f2.f6), .float .f64 ((rd_T26 l0 x3_1).f2.f7)] 26 (0, 0)) (by (with_reducible repeat (first | refine blk_drewN ?_ _ | refine blk_drew ?_ | refine blk_alloc ?_ _)); exact BK158.out) hb); have n1_ := Aside0.mk (below_step (by repeat (first | (with_reducible first | exact HB.out | apply below_alloc | apply pw_below_drewN | apply below_drew1 | refine below_set ?_ GE158.out) | exact HB.out)) hb); clear BK158; clear HB; have BK158 := n0_; have HB := n1_; clear n0_ n1_; (try clear hb); (try clear hb2); (try clear hk); (try clear hi)) | ((with_reducible refine gate_callee (f := 13) rfl ?_); refine goesL_ (some 76) rfl rfl Try.func13 (by kernel_rfl) rfl #[.complex .f64 t166.1 t166.2] rfl (by (try simp only [List.map_toArray, List.map_cons, List.map_nil]); first | done | rfl | (simp only [List.length_drop, List.length_take]; rfl)) ?_; (with_reducible refine (point_Parts.calls k5 t166 t167 t168 t169 _ A29.out).mono ?_); rintro e w38 ⟨rfl, hb⟩; refine ⟨_, rfl, ?_⟩; have n0_ := Aside0.mk (blk_below (g := gb158) (o := .cells #[.int .i64 ((rd_T26 l0 x3_1).f0), .int .i64 ((rd_T26 l0 x3_1).f1), .float .f64 ((rd_T26 l0 x3_1).f2.f0), .float .f64 ((rd_T26 l0 x3_1).f2.f1), .float .f64 ((rd_T26 l0 x3_1).f2.f2), .float .f64 ((rd_T26 l0 x3_1).f2.f3), .float .f64 ((rd_T26 l0 x3_1).f2.f4), .float .f64 ((rd_T26 l0 x3_1).f2.f5), .float .f64 ((rd_T26 l0 x3_1).f2.f6), .float .f64 ((rd_T26 l0 x3_1).f2.f7)] 26 (0, 0)) (by (with_reducible repeat (first | refine blk_drewN ?_ _ | refine blk_drew ?_ | refine blk_alloc ?_ _)); exact BK158.out) hb); have n1_ := Aside0.mk (below_step (by repeat (first | (with_reducible first | exact HB.out | apply below_alloc | apply pw_below_drewN | apply below_drew1 | refine below_set ?_ GE158.out) | exact HB.out)) hb); clear BK158; clear HB; have BK158 := n0_; have HB := n1_; clear n0_ n1_; (try clear hb); (try clear hb2); (try clear hk); (try clear hi); have hcz39_0 : w38.cell? ⟨gb158, 0, none⟩ = some (.int .i64 ((rd_T26 l0 x3_1).f0)) := (blk_cell BK158.out 0).trans rfl; have hcz39_1 : w38.cell? ⟨gb158, 1, none⟩ = some (.int .i64 ((rd_T26 l0 x3_1).f1)) := (blk_cell BK158.out 1).trans rfl; have hcz39_2 : w38.cell? ⟨gb158, 2, none⟩ = some (.float .f64 ((rd_T26 l0 x3_1).f2.f0)) := (blk_cell BK158.out 2).trans rfl; have hcz39_3 : w38.cell? ⟨gb158, 3, none⟩ = some (.float .f64 ((rd_T26 l0 x3_1).f2.f1)) := (blk_cell BK158.out 3).trans rfl; have hcz39_4 : w38.cell? ⟨gb158, 4, none⟩ = some (.float .f64 ((rd_T26 l0 x3_1).f2.f2)) := (blk_cell BK158.out 4).trans rfl; have hcz39_5 : w38.cell? ⟨gb158, 5, none⟩ = some (.float .f64 ((rd_T26 l0 x3_1).f2.f3)) := (blk_cell BK158.out 5).trans rfl; have hcz39_6 : w38.cell? ⟨gb158, 6, none⟩ = some (.float .f64 ((rd_T26 l0 x3_1).f2.f4)) := (blk_cell BK158.out 6).trans rfl; have hcz39_7 : w38.cell? ⟨gb158, 7, none⟩ = some (.float .f64 ((rd_T26 l0 x3_1).f2.f5)) := (blk_cell BK158.out 7).trans rfl; have hcz39_8 : w38.cell? ⟨gb158, 8, none⟩ = some (.float .f64 ((rd_T26 l0 x3_1).f2.f6)) := (blk_cell BK158.out 8).trans rfl; have hcz39_9 : w38.cell? ⟨gb158, 9, none⟩ = some (.float .f64 ((rd_T26 l0 x3_1).f2.f7)) := (blk_cell BK158.out 9).trans rfl; have hfz39_0 := blk_frozen BK158.out 0; have hfz39_1 := blk_frozen BK158.out 1; have hfz39_2 := blk_frozen BK158.out 2; have hfz39_3 := blk_frozen BK158.out 3; have hfz39_4 := blk_frozen BK158.out 4; have hfz39_5 := blk_frozen BK158.out 5; have hfz39_6 := blk_frozen BK158.out 6; have hfz39_7 := blk_frozen BK158.out 7; have hfz39_8 := blk_frozen BK158.out 8; have hfz39_9 := blk_frozen BK158.out 9) | ((with_reducible refine gate_callee (f := 14) rfl ?_); refine goesL_ (some 83) rfl rfl Try.func14 (by kernel_rfl) rfl #[.agg #[.int .i64 ((rd_T26 l0 x3_1).f0), .int .i64 ((rd_T26 l0 x3_1).f1), .float .f64 ((rd_T26 l0 x3_1).f2.f0), .float .f64 ((rd_T26 l0 x3_1).f2.f1), .float .f64 ((rd_T26 l0 x3_1).f2.f2), .float .f64 ((rd_T26 l0 x3_1).f2.f3), .float .f64 ((rd_T26 l0 x3_1).f2.f4), .float .f64 ((rd_T26 l0 x3_1).f2.f5), .float .f64 ((rd_T26 l0 x3_1).f2.f6), .float .f64 ((rd_T26 l0 x3_1).f2.f7)], .int .i64 x8_5] rfl (by (try simp only [List.map_toArray, List.map_cons, List.map_nil]); first | done | rfl | (simp only [List.length_drop, List.length_take]; rfl)) ?_; (with_reducible refine (arraslaw3_Ask_c.calls ((rd_T26 l0 x3_1).f0) ((rd_T26 l0 x3_1).f1) ((rd_T26 l0 x3_1).f2.f0) ((rd_T26 l0 x3_1).f2.f1) ((rd_T26 l0 x3_1).f2.f2) ((rd_T26 l0 x3_1).f2.f3) ((rd_T26 l0 x3_1).f2.f4) ((rd_T26 l0 x3_1).f2.f5) ((rd_T26 l0 x3_1).f2.f6) ((rd_T26 l0 x3_1).f2.f7) x8_5 t170 _ A30.out).mono ?_); rintro e w40 ⟨rfl, hb⟩; refine ⟨_, rfl, ?_⟩; have n0_ := Aside0.mk (blk_below (g := gb158) (o := .cells #[.int .i64 ((rd_T26 l0 x3_1).f0), .int .i64 ((rd_T26 l0 x3_1).f1), .float .f64 ((rd_T26 l0 x3_1).f2.f0), .float .f64 ((rd_T26 l0 x3_1).f2.f1), .float .f64 ((rd_T26 l0 x3_1).f2.f2), .float .f64 ((rd_T26 l0 x3_1).f2.f3), .float .f64 ((rd_T26 l0 x3_1).f2.f4), .float .f64 ((rd_T26 l0 x3_1).f2.f5), .float .f64 ((rd_T26 l0 x3_1).f2.f6), .float .f64 ((rd_T26 l0 x3_1).f2.f7)] 26 (0, 0)) (by (with_reducible repeat (first | refine blk_drewN ?_ _ | refine blk_drew ?_ | refine blk_alloc ?_ _)); exact BK158.out) hb); have n1_ := Aside0.mk (below_step (by repeat (first | (with_reducible first | exact HB.out | apply below_alloc | apply pw_below_drewN | apply below_drew1 | refine below_set ?_ GE158.out) | exact HB.out)) hb); clear BK158; clear HB; have BK158 := n0_; have HB := n1_; clear n0_ n1_; (try clear hb); (try clear hb2); (try clear hk); (try clear hi)) | ((with_reducible refine gate_callee (f := 15) rfl ?_); refine goesL_ (some 84) rfl rfl Try.func15 (by kernel_rfl) rfl #[.complex .f64 t170.1 t170.2] rfl (by (try simp only [List.map_toArray, List.map_cons, List.map_nil]); first | done | rfl | (simp only [List.length_drop, List.length_take]; rfl)) ?_; (with_reducible refine (point_Turn.calls k5 t170 t171 t172 _ A31.out).mono ?_); rintro e w41 ⟨rfl, hb⟩; refine ⟨_, rfl, ?_⟩; have n0_ := Aside0.mk (blk_below (g := gb158) (o := .cells #[.int .i64 ((rd_T26 l0 x3_1).f0), .int .i64 ((rd_T26 l0 x3_1).f1), .float .f64 ((rd_T26 l0 x3_1).f2.f0), .float .f64 ((rd_T26 l0 x3_1).f2.f1), .float .f64 ((rd_T26 l0 x3_1).f2.f2), .float .f64 ((rd_T26 l0 x3_1).f2.f3), .float .f64 ((rd_T26 l0 x3_1).f2.f4), .float .f64 ((rd_T26 l0 x3_1).f2.f5), .float .f64 ((rd_T26 l0 x3_1).f2.f6), .float .f64 ((rd_T26 l0 x3_1).f2.f7)] 26 (0, 0)) (by (with_reducible repeat (first | refine blk_drewN ?_ _ | refine blk_drew ?_ | refine blk_alloc ?_ _)); exact BK158.out) hb); have n1_ := Aside0.mk (below_step (by repeat (first | (with_reducible first | exact HB.out | apply below_alloc | apply pw_below_drewN | apply below_drew1 | refine below_set ?_ GE158.out) | exact HB.out)) hb); clear BK158; clear HB; have BK158 := n0_; have HB := n1_; clear n0_ n1_; (try clear hb); (try clear hb2); (try clear hk); (try clear hi); have hcz42_0 : w41.cell? ⟨gb158, 0, none⟩ = some (.int .i64 ((rd_T26 l0 x3_1).f0)) := (blk_cell BK158.out 0).trans rfl; have hcz42_1 : w41.cell? ⟨gb158, 1, none⟩ = some (.int .i64 ((rd_T26 l0 x3_1).f1)) := (blk_cell BK158.out 1).trans rfl; have hcz42_2 : w41.cell? ⟨gb158, 2, none⟩ = some (.float .f64 ((rd_T26 l0 x3_1).f2.f0)) := (blk_cell BK158.out 2).trans rfl; have hcz42_3 : w41.cell? ⟨gb158, 3, none⟩ = some (.float .f64 ((rd_T26 l0 x3_1).f2.f1)) := (blk_cell BK158.out 3).trans rfl; have hcz42_4 : w41.cell? ⟨gb158, 4, none⟩ = some (.float .f64 ((rd_T26 l0 x3_1).f2.f2)) := (blk_cell BK158.out 4).trans rfl; have hcz42_5 : w41.cell? ⟨gb158, 5, none⟩ = some (.float .f64 ((rd_T26 l0 x3_1).f2.f3)) := (blk_cell BK158.out 5).trans rfl; have hcz42_6 : w41.cell? ⟨gb158, 6, none⟩ = some (.float .f64 ((rd_T26 l0 x3_1).f2.f4)) := (blk_cell BK158.out 6).trans rfl; have hcz42_7 : w41.cell? ⟨gb158, 7, none⟩ = some (.float .f64 ((rd_T26 l0 x3_1).f2.f5)) := (blk_cell BK158.out 7).trans rfl; have hcz42_8 : w41.cell? ⟨gb158, 8, none⟩ = some (.float .f64 ((rd_T26 l0 x3_1).f2.f6)) := (blk_cell BK158.out 8).trans rfl; have hcz42_9 : w41.cell? ⟨gb158, 9, none⟩ = some (.float .f64 ((rd_T26 l0 x3_1).f2.f7)) := (blk_cell BK158.out 9).trans rfl; have hfz42_0 := blk_frozen BK158.out 0; have hfz42_1 := blk_frozen BK158.out 1; have hfz42_2 := blk_frozen BK158.out 2; have hfz42_3 := blk_frozen BK158.out 3; have hfz42_4 := blk_frozen BK158.out 4; have hfz42_5 := blk_frozen BK158.out 5; have hfz42_6 := blk_frozen BK158.out 6; have hfz42_7 := blk_frozen BK158.out 7; have hfz42_8 := blk_frozen BK158.out 8; have hfz42_9 := blk_frozen BK158.out 9) | ((with_reducible refine gate_callee (f := 14) rfl ?_); refine goesL_ (some 89) rfl rfl Try.func14 (by kernel_rfl) rfl #[.agg #[.int .i64 ((rd_T26 l0 x3_1).f0), .int .i64 ((rd_T26 l0 x3_1).f1), .float .f64 ((rd_T26 l0 x3_1).f2.f0), .float .f64 ((rd_T26 l0 x3_1).f2.f1), .float .f64 ((rd_T26 l0 x3_1).f2.f2), .float .f64 ((rd_T26 l0 x3_1).f2.f3), .float .f64 ((rd_T26 l0 x3_1).f2.f4), .float .f64 ((rd_T26 l0 x3_1).f2.f5), .float .f64 ((rd_T26 l0 x3_1).f2.f6), .float .f64 ((rd_T26 l0 x3_1).f2.f7)], .int .i64 x8_5] rfl (by (try simp only [List.map_toArray, List.map_cons, List.map_nil]); first | done | rfl | (simp only [List.length_drop, List.length_take]; rfl)) ?_; (with_reducible refine (arraslaw3_Ask_c.calls ((rd_T26 l0 x3_1).f0) ((rd_T26 l0 x3_1).f1) ((rd_T26 l0 x3_1).f2.f0) ((rd_T26 l0 x3_1).f2.f1) ((rd_T26 l0 x3_1).f2.f2) ((rd_T26 l0 x3_1).f2.f3) ((rd_T26 l0 x3_1).f2.f4) ((rd_T26 l0 x3_1).f2.f5) ((rd_T26 l0 x3_1).f2.f6) ((rd_T26 l0 x3_1).f2.f7) x8_5 t173 _ A32.out).mono ?_); rintro e w43 ⟨rfl, hb⟩; refine ⟨_, rfl, ?_⟩; have n0_ := Aside0.mk (blk_below (g := gb158) (o := .cells #[.int .i64 ((rd_T26 l0 x3_1).f0), .int .i64 ((rd_T26 l0 x3_1).f1), .float .f64 ((rd_T26 l0 x3_1).f2.f0), .float .f64 ((rd_T26 l0 x3_1).f2.f1), .float .f64 ((rd_T26 l0 x3_1).f2.f2), .float .f64 ((rd_T26 l0 x3_1).f2.f3), .float .f64 ((rd_T26 l0 x3_1).f2.f4), .float .f64 ((rd_T26 l0 x3_1).f2.f5), .float .f64 ((rd_T26 l0 x3_1).f2.f6), .float .f64 ((rd_T26 l0 x3_1).f2.f7)] 26 (0, 0)) (by (with_reducible repeat (first | refine blk_drewN ?_ _ | refine blk_drew ?_ | refine blk_alloc ?_ _)); exact BK158.out) hb); have n1_ := Aside0.mk (below_step (by repeat (first | (with_reducible first | exact HB.out | apply below_alloc | apply pw_below_drewN | apply below_drew1 | refine below_set ?_ GE158.out) | exact HB.out)) hb); clear BK158; clear HB; have BK158 := n0_; have HB := n1_; clear n0_ n1_; (try clear hb); (try clear hb2); (try clear hk); (try clear hi)) | ((with_reducible refine gate_callee (f := 16) rfl ?_); refine goesL_ (some 90) rfl rfl Try.func16 (by kernel_rfl) rfl #[.complex .f64 t173.1 t173.2] rfl (by (try simp only [List.map_toArray, List.map_cons, List.map_nil]); first | done | rfl | (simp only [List.length_drop, List.length_take]; rfl)) ?_; (with_reducible refine (arrasref3_Point.calls t173 true _ A33.out).mono ?_); rintro e w' ⟨rfl, ⟨nd, rfl⟩⟩; refine ⟨_, rfl, ?_⟩))
                 (try simp only [Act.put, List.setIfInBounds_toArray, List.set_cons_zero, List.set_cons_succ])
                 go_cut [135] (fun v135 wc => ∃ (kq : Nat) (x135_34 : Bool), v135 = .bool x135_34 ∧ Aside0 (arraslaw3_PointNumbers.j6 kq l0 x3_1 x8_5 x135_34 ((rd_T26 l0 x3_1).f0) ((rd_T26 l0 x3_1).f1) ((rd_T26 l0 x3_1).f2.f0) ((rd_T26 l0 x3_1).f2.f1) ((rd_T26 l0 x3_1).f2.f2) ((rd_T26 l0 x3_1).f2.f3) ((rd_T26 l0 x3_1).f2.f4) ((rd_T26 l0 x3_1).f2.f5) ((rd_T26 l0 x3_1).f2.f6) ((rd_T26 l0 x3_1).f2.f7) = some r) ∧ Aside0 (kq ≤ k5) ∧ Aside0 (wc.heap[gb158]? = some (.cells #[.int .i64 ((rd_T26 l0 x3_1).f0), .int .i64 ((rd_T26 l0 x3_1).f1), .float .f64 ((rd_T26 l0 x3_1).f2.f0), .float .f64 ((rd_T26 l0 x3_1).f2.f1), .float .f64 ((rd_T26 l0 x3_1).f2.f2), .float .f64 ((rd_T26 l0 x3_1).f2.f3), .float .f64 ((rd_T26 l0 x3_1).f2.f4), .float .f64 ((rd_T26 l0 x3_1).f2.f5), .float .f64 ((rd_T26 l0 x3_1).f2.f6), .float .f64 ((rd_T26 l0 x3_1).f2.f7)] 26 (0, 0))) ∧ Aside0 (Below w.heap.size w wc))
                 case first =>
                  have H := HC35.out
                  clear HC35
                  replace H := Option.bind_eq_some_iff.mp H
                  obtain ⟨t177, A440, H⟩ := H
                  replace H : (if t177 = 0 then ((arraslaw3_Ask_c.f ((rd_T26 l0 x3_1).f0) ((rd_T26 l0 x3_1).f1) ((rd_T26 l0 x3_1).f2.f0) ((rd_T26 l0 x3_1).f2.f1) ((rd_T26 l0 x3_1).f2.f2) ((rd_T26 l0 x3_1).f2.f3) ((rd_T26 l0 x3_1).f2.f4) ((rd_T26 l0 x3_1).f2.f5) ((rd_T26 l0 x3_1).f2.f6) ((rd_T26 l0 x3_1).f2.f7) x8_5).bind fun t178 => ((arrasref3_X.f t178).bind fun t179 => (if t167 = t179 then ((arraslaw3_Ask_c.f ((rd_T26 l0 x3_1).f0) ((rd_T26 l0 x3_1).f1) ((rd_T26 l0 x3_1).f2.f0) ((rd_T26 l0 x3_1).f2.f1) ((rd_T26 l0 x3_1).f2.f2) ((rd_T26 l0 x3_1).f2.f3) ((rd_T26 l0 x3_1).f2.f4) ((rd_T26 l0 x3_1).f2.f5) ((rd_T26 l0 x3_1).f2.f6) ((rd_T26 l0 x3_1).f2.f7) x8_5).bind fun t180 => ((arrasref3_Y.f t180).bind fun t181 => (if t168 = t181 then ((arrasref3_Of.f t168 t167).bind fun t182 => ((arraslaw3_told.f t171 t172 true t182).bind fun t183 => (arraslaw3_PointNumbers.j6 k5 l0 x3_1 x8_5 (!t183) ((rd_T26 l0 x3_1).f0) ((rd_T26 l0 x3_1).f1) ((rd_T26 l0 x3_1).f2.f0) ((rd_T26 l0 x3_1).f2.f1) ((rd_T26 l0 x3_1).f2.f2) ((rd_T26 l0 x3_1).f2.f3) ((rd_T26 l0 x3_1).f2.f4) ((rd_T26 l0 x3_1).f2.f5) ((rd_T26 l0 x3_1).f2.f6) ((rd_T26 l0 x3_1).f2.f7)))) else (arraslaw3_PointNumbers.j6 k5 l0 x3_1 x8_5 true ((rd_T26 l0 x3_1).f0) ((rd_T26 l0 x3_1).f1) ((rd_T26 l0 x3_1).f2.f0) ((rd_T26 l0 x3_1).f2.f1) ((rd_T26 l0 x3_1).f2.f2) ((rd_T26 l0 x3_1).f2.f3) ((rd_T26 l0 x3_1).f2.f4) ((rd_T26 l0 x3_1).f2.f5) ((rd_T26 l0 x3_1).f2.f6) ((rd_T26 l0 x3_1).f2.f7))))) else (arraslaw3_PointNumbers.j6 k5 l0 x3_1 x8_5 true ((rd_T26 l0 x3_1).f0) ((rd_T26 l0 x3_1).f1) ((rd_T26 l0 x3_1).f2.f0) ((rd_T26 l0 x3_1).f2.f1) ((rd_T26 l0 x3_1).f2.f2) ((rd_T26 l0 x3_1).f2.f3) ((rd_T26 l0 x3_1).f2.f4) ((rd_T26 l0 x3_1).f2.f5) ((rd_T26 l0 x3_1).f2.f6) ((rd_T26 l0 x3_1).f2.f7))))) else (arraslaw3_PointNumbers.j6 k5 l0 x3_1 x8_5 true ((rd_T26 l0 x3_1).f0) ((rd_T26 l0 x3_1).f1) ((rd_T26 l0 x3_1).f2.f0) ((rd_T26 l0 x3_1).f2.f1) ((rd_T26 l0 x3_1).f2.f2) ((rd_T26 l0 x3_1).f2.f3) ((rd_T26 l0 x3_1).f2.f4) ((rd_T26 l0 x3_1).f2.f5) ((rd_T26 l0 x3_1).f2.f6) ((rd_T26 l0 x3_1).f2.f7))) = some r := H
                  have A44 := Aside0.mk A440; clear A440
                  by_cases c45 : t177 = 0
                  ·rw [if_pos c45] at H
                   have c45b0 : (t177 == 0) = true := beq_iff_eq.mpr c45
                   have c45b1 : (t177 != 0) = false := bne_eq_false_iff_eq.mpr c45
                   clear c45
                   (first | rw [c45b0] | (simp only [i64_w, i32_w]; rw [c45b0]) | skip)
                   replace H := Option.bind_eq_some_iff.mp H
                   obtain ⟨t178, A460, H⟩ := H
                   replace H : ((arrasref3_X.f t178).bind fun t179 => (if t167 = t179 then ((arraslaw3_Ask_c.f ((rd_T26 l0 x3_1).f0) ((rd_T26 l0 x3_1).f1) ((rd_T26 l0 x3_1).f2.f0) ((rd_T26 l0 x3_1).f2.f1) ((rd_T26 l0 x3_1).f2.f2) ((rd_T26 l0 x3_1).f2.f3) ((rd_T26 l0 x3_1).f2.f4) ((rd_T26 l0 x3_1).f2.f5) ((rd_T26 l0 x3_1).f2.f6) ((rd_T26 l0 x3_1).f2.f7) x8_5).bind fun t180 => ((arrasref3_Y.f t180).bind fun t181 => (if t168 = t181 then ((arrasref3_Of.f t168 t167).bind fun t182 => ((arraslaw3_told.f t171 t172 true t182).bind fun t183 => (arraslaw3_PointNumbers.j6 k5 l0 x3_1 x8_5 (!t183) ((rd_T26 l0 x3_1).f0) ((rd_T26 l0 x3_1).f1) ((rd_T26 l0 x3_1).f2.f0) ((rd_T26 l0 x3_1).f2.f1) ((rd_T26 l0 x3_1).f2.f2) ((rd_T26 l0 x3_1).f2.f3) ((rd_T26 l0 x3_1).f2.f4) ((rd_T26 l0 x3_1).f2.f5) ((rd_T26 l0 x3_1).f2.f6) ((rd_T26 l0 x3_1).f2.f7)))) else (arraslaw3_PointNumbers.j6 k5 l0 x3_1 x8_5 true ((rd_T26 l0 x3_1).f0) ((rd_T26 l0 x3_1).f1) ((rd_T26 l0 x3_1).f2.f0) ((rd_T26 l0 x3_1).f2.f1) ((rd_T26 l0 x3_1).f2.f2) ((rd_T26 l0 x3_1).f2.f3) ((rd_T26 l0 x3_1).f2.f4) ((rd_T26 l0 x3_1).f2.f5) ((rd_T26 l0 x3_1).f2.f6) ((rd_T26 l0 x3_1).f2.f7))))) else (arraslaw3_PointNumbers.j6 k5 l0 x3_1 x8_5 true ((rd_T26 l0 x3_1).f0) ((rd_T26 l0 x3_1).f1) ((rd_T26 l0 x3_1).f2.f0) ((rd_T26 l0 x3_1).f2.f1) ((rd_T26 l0 x3_1).f2.f2) ((rd_T26 l0 x3_1).f2.f3) ((rd_T26 l0 x3_1).f2.f4) ((rd_T26 l0 x3_1).f2.f5) ((rd_T26 l0 x3_1).f2.f6) ((rd_T26 l0 x3_1).f2.f7)))) = some r := H
                   have A46 := Aside0.mk A460; clear A460
                   replace H := Option.bind_eq_some_iff.mp H
                   obtain ⟨t179, A470, H⟩ := H
                   replace H : (if t167 = t179 then ((arraslaw3_Ask_c.f ((rd_T26 l0 x3_1).f0) ((rd_T26 l0 x3_1).f1) ((rd_T26 l0 x3_1).f2.f0) ((rd_T26 l0 x3_1).f2.f1) ((rd_T26 l0 x3_1).f2.f2) ((rd_T26 l0 x3_1).f2.f3) ((rd_T26 l0 x3_1).f2.f4) ((rd_T26 l0 x3_1).f2.f5) ((rd_T26 l0 x3_1).f2.f6) ((rd_T26 l0 x3_1).f2.f7) x8_5).bind fun t180 => ((arrasref3_Y.f t180).bind fun t181 => (if t168 = t181 then ((arrasref3_Of.f t168 t167).bind fun t182 => ((arraslaw3_told.f t171 t172 true t182).bind fun t183 => (arraslaw3_PointNumbers.j6 k5 l0 x3_1 x8_5 (!t183) ((rd_T26 l0 x3_1).f0) ((rd_T26 l0 x3_1).f1) ((rd_T26 l0 x3_1).f2.f0) ((rd_T26 l0 x3_1).f2.f1) ((rd_T26 l0 x3_1).f2.f2) ((rd_T26 l0 x3_1).f2.f3) ((rd_T26 l0 x3_1).f2.f4) ((rd_T26 l0 x3_1).f2.f5) ((rd_T26 l0 x3_1).f2.f6) ((rd_T26 l0 x3_1).f2.f7)))) else (arraslaw3_PointNumbers.j6 k5 l0 x3_1 x8_5 true ((rd_T26 l0 x3_1).f0) ((rd_T26 l0 x3_1).f1) ((rd_T26 l0 x3_1).f2.f0) ((rd_T26 l0 x3_1).f2.f1) ((rd_T26 l0 x3_1).f2.f2) ((rd_T26 l0 x3_1).f2.f3) ((rd_T26 l0 x3_1).f2.f4) ((rd_T26 l0 x3_1).f2.f5) ((rd_T26 l0 x3_1).f2.f6) ((rd_T26 l0 x3_1).f2.f7))))) else (arraslaw3_PointNumbers.j6 k5 l0 x3_1 x8_5 true ((rd_T26 l0 x3_1).f0) ((rd_T26 l0 x3_1).f1) ((rd_T26 l0 x3_1).f2.f0) ((rd_T26 l0 x3_1).f2.f1) ((rd_T26 l0 x3_1).f2.f2) ((rd_T26 l0 x3_1).f2.f3) ((rd_T26 l0 x3_1).f2.f4) ((rd_T26 l0 x3_1).f2.f5) ((rd_T26 l0 x3_1).f2.f6) ((rd_T26 l0 x3_1).f2.f7))) = some r := H
                   have A47 := Aside0.mk A470; clear A470
                   by_cases c48 : t167 = t179
                   ·rw [if_pos c48] at H
                    have c48b0 : (t167 == t179) = true := beq_iff_eq.mpr c48
                    have c48b1 : (t167 != t179) = false := bne_eq_false_iff_eq.mpr c48
                    clear c48
                    replace H := Option.bind_eq_some_iff.mp H
                    obtain ⟨t180, A490, H⟩ := H
                    replace H : ((arrasref3_Y.f t180).bind fun t181 => (if t168 = t181 then ((arrasref3_Of.f t168 t167).bind fun t182 => ((arraslaw3_told.f t171 t172 true t182).bind fun t183 => (arraslaw3_PointNumbers.j6 k5 l0 x3_1 x8_5 (!t183) ((rd_T26 l0 x3_1).f0) ((rd_T26 l0 x3_1).f1) ((rd_T26 l0 x3_1).f2.f0) ((rd_T26 l0 x3_1).f2.f1) ((rd_T26 l0 x3_1).f2.f2) ((rd_T26 l0 x3_1).f2.f3) ((rd_T26 l0 x3_1).f2.f4) ((rd_T26 l0 x3_1).f2.f5) ((rd_T26 l0 x3_1).f2.f6) ((rd_T26 l0 x3_1).f2.f7)))) else (arraslaw3_PointNumbers.j6 k5 l0 x3_1 x8_5 true ((rd_T26 l0 x3_1).f0) ((rd_T26 l0 x3_1).f1) ((rd_T26 l0 x3_1).f2.f0) ((rd_T26 l0 x3_1).f2.f1) ((rd_T26 l0 x3_1).f2.f2) ((rd_T26 l0 x3_1).f2.f3) ((rd_T26 l0 x3_1).f2.f4) ((rd_T26 l0 x3_1).f2.f5) ((rd_T26 l0 x3_1).f2.f6) ((rd_T26 l0 x3_1).f2.f7)))) = some r := H
                    have A49 := Aside0.mk A490; clear A490
                    replace H := Option.bind_eq_some_iff.mp H
                    obtain ⟨t181, A500, H⟩ := H
                    replace H : (if t168 = t181 then ((arrasref3_Of.f t168 t167).bind fun t182 => ((arraslaw3_told.f t171 t172 true t182).bind fun t183 => (arraslaw3_PointNumbers.j6 k5 l0 x3_1 x8_5 (!t183) ((rd_T26 l0 x3_1).f0) ((rd_T26 l0 x3_1).f1) ((rd_T26 l0 x3_1).f2.f0) ((rd_T26 l0 x3_1).f2.f1) ((rd_T26 l0 x3_1).f2.f2) ((rd_T26 l0 x3_1).f2.f3) ((rd_T26 l0 x3_1).f2.f4) ((rd_T26 l0 x3_1).f2.f5) ((rd_T26 l0 x3_1).f2.f6) ((rd_T26 l0 x3_1).f2.f7)))) else (arraslaw3_PointNumbers.j6 k5 l0 x3_1 x8_5 true ((rd_T26 l0 x3_1).f0) ((rd_T26 l0 x3_1).f1) ((rd_T26 l0 x3_1).f2.f0) ((rd_T26 l0 x3_1).f2.f1) ((rd_T26 l0 x3_1).f2.f2) ((rd_T26 l0 x3_1).f2.f3) ((rd_T26 l0 x3_1).f2.f4) ((rd_T26 l0 x3_1).f2.f5) ((rd_T26 l0 x3_1).f2.f6) ((rd_T26 l0 x3_1).f2.f7))) = some r := H
                    have A50 : Aside0 (arrasref3_Y.f t178 = some t181) := ⟨by rw [Option.some.inj (A46.out.symm.trans A49.out)]; exact A500⟩
                    clear A500
                    by_cases c51 : t168 = t181
                    ·rw [if_pos c51] at H
                     have c51b0 : (t168 == t181) = true := beq_iff_eq.mpr c51
                     have c51b1 : (t168 != t181) = false := bne_eq_false_iff_eq.mpr c51
                     clear c51
                     replace H := Option.bind_eq_some_iff.mp H
                     obtain ⟨t182, A520, H⟩ := H
                     replace H : ((arraslaw3_told.f t171 t172 true t182).bind fun t183 => (arraslaw3_PointNumbers.j6 k5 l0 x3_1 x8_5 (!t183) ((rd_T26 l0 x3_1).f0) ((rd_T26 l0 x3_1).f1) ((rd_T26 l0 x3_1).f2.f0) ((rd_T26 l0 x3_1).f2.f1) ((rd_T26 l0 x3_1).f2.f2) ((rd_T26 l0 x3_1).f2.f3) ((rd_T26 l0 x3_1).f2.f4) ((rd_T26 l0 x3_1).f2.f5) ((rd_T26 l0 x3_1).f2.f6) ((rd_T26 l0 x3_1).f2.f7))) = some r := H
                     have A52 := Aside0.mk A520; clear A520
                     replace H := Option.bind_eq_some_iff.mp H
                     obtain ⟨t183, A530, H⟩ := H
                     replace H : (arraslaw3_PointNumbers.j6 k5 l0 x3_1 x8_5 (!t183) ((rd_T26 l0 x3_1).f0) ((rd_T26 l0 x3_1).f1) ((rd_T26 l0 x3_1).f2.f0) ((rd_T26 l0 x3_1).f2.f1) ((rd_T26 l0 x3_1).f2.f2) ((rd_T26 l0 x3_1).f2.f3) ((rd_T26 l0 x3_1).f2.f4) ((rd_T26 l0 x3_1).f2.f5) ((rd_T26 l0 x3_1).f2.f6) ((rd_T26 l0 x3_1).f2.f7)) = some r := H
                     have A53 := Aside0.mk A530; clear A530
                     have H' := Aside0.mk H
                     clear H
                     go_wp2_with (first | ((with_reducible refine gate_callee (f := 17) rfl ?_); refine goesL_ (some 109) rfl rfl Try.func17 (by kernel_rfl) rfl #[.int .i64 t169] rfl (by (try simp only [List.map_toArray, List.map_cons, List.map_nil]); first | done | rfl | (simp only [List.length_drop, List.length_take]; rfl)) ?_; (with_reducible refine (arraslaw3_num.calls t169 t177 _ A44.out).mono ?_); rintro e w' ⟨rfl, ⟨nd, rfl⟩⟩; refine ⟨_, rfl, ?_⟩; have hcz54_0 : w43.cell? ⟨gb158, 0, none⟩ = some (.int .i64 ((rd_T26 l0 x3_1).f0)) := (blk_cell BK158.out 0).trans rfl; have hcz54_1 : w43.cell? ⟨gb158, 1, none⟩ = some (.int .i64 ((rd_T26 l0 x3_1).f1)) := (blk_cell BK158.out 1).trans rfl; have hcz54_2 : w43.cell? ⟨gb158, 2, none⟩ = some (.float .f64 ((rd_T26 l0 x3_1).f2.f0)) := (blk_cell BK158.out 2).trans rfl; have hcz54_3 : w43.cell? ⟨gb158, 3, none⟩ = some (.float .f64 ((rd_T26 l0 x3_1).f2.f1)) := (blk_cell BK158.out 3).trans rfl; have hcz54_4 : w43.cell? ⟨gb158, 4, none⟩ = some (.float .f64 ((rd_T26 l0 x3_1).f2.f2)) := (blk_cell BK158.out 4).trans rfl; have hcz54_5 : w43.cell? ⟨gb158, 5, none⟩ = some (.float .f64 ((rd_T26 l0 x3_1).f2.f3)) := (blk_cell BK158.out 5).trans rfl; have hcz54_6 : w43.cell? ⟨gb158, 6, none⟩ = some (.float .f64 ((rd_T26 l0 x3_1).f2.f4)) := (blk_cell BK158.out 6).trans rfl; have hcz54_7 : w43.cell? ⟨gb158, 7, none⟩ = some (.float .f64 ((rd_T26 l0 x3_1).f2.f5)) := (blk_cell BK158.out 7).trans rfl; have hcz54_8 : w43.cell? ⟨gb158, 8, none⟩ = some (.float .f64 ((rd_T26 l0 x3_1).f2.f6)) := (blk_cell BK158.out 8).trans rfl; have hcz54_9 : w43.cell? ⟨gb158, 9, none⟩ = some (.float .f64 ((rd_T26 l0 x3_1).f2.f7)) := (blk_cell BK158.out 9).trans rfl; have hfz54_0 := blk_frozen BK158.out 0; have hfz54_1 := blk_frozen BK158.out 1; have hfz54_2 := blk_frozen BK158.out 2; have hfz54_3 := blk_frozen BK158.out 3; have hfz54_4 := blk_frozen BK158.out 4; have hfz54_5 := blk_frozen BK158.out 5; have hfz54_6 := blk_frozen BK158.out 6; have hfz54_7 := blk_frozen BK158.out 7; have hfz54_8 := blk_frozen BK158.out 8; have hfz54_9 := blk_frozen BK158.out 9) | (go_at_call 14; (with_reducible refine (arraslaw3_Ask_c.calls ((rd_T26 l0 x3_1).f0) ((rd_T26 l0 x3_1).f1) ((rd_T26 l0 x3_1).f2.f0) ((rd_T26 l0 x3_1).f2.f1) ((rd_T26 l0 x3_1).f2.f2) ((rd_T26 l0 x3_1).f2.f3) ((rd_T26 l0 x3_1).f2.f4) ((rd_T26 l0 x3_1).f2.f5) ((rd_T26 l0 x3_1).f2.f6) ((rd_T26 l0 x3_1).f2.f7) x8_5 t178 _ A46.out).mono ?_); rintro e w55 ⟨rfl, hb⟩; have n0_ := Aside0.mk (blk_below (g := gb158) (o := .cells #[.int .i64 ((rd_T26 l0 x3_1).f0), .int .i64 ((rd_T26 l0 x3_1).f1), .float .f64 ((rd_T26 l0 x3_1).f2.f0), .float .f64 ((rd_T26 l0 x3_1).f2.f1), .float .f64 ((rd_T26 l0 x3_1).f2.f2), .float .f64 ((rd_T26 l0 x3_1).f2.f3), .float .f64 ((rd_T26 l0 x3_1).f2.f4), .float .f64 ((rd_T26 l0 x3_1).f2.f5), .float .f64 ((rd_T26 l0 x3_1).f2.f6), .float .f64 ((rd_T26 l0 x3_1).f2.f7)] 26 (0, 0)) (by (with_reducible repeat (first | refine blk_drewN ?_ _ | refine blk_drew ?_ | refine blk_alloc ?_ _)); exact BK158.out) hb); have n1_ := Aside0.mk (below_step (by repeat (first | (with_reducible first | exact HB.out | apply below_alloc | apply pw_below_drewN | apply below_drew1 | refine below_set ?_ GE158.out) | exact HB.out)) hb); clear BK158; clear HB; have BK158 := n0_; have HB := n1_; clear n0_ n1_; (try clear hb); (try clear hb2); (try clear hk); (try clear hi)) | (go_at_call 18; (with_reducible refine (arrasref3_X.calls t178 t179 _ A47.out).mono ?_); rintro e w' ⟨rfl, ⟨nd, rfl⟩⟩; have hcz56_0 : w55.cell? ⟨gb158, 0, none⟩ = some (.int .i64 ((rd_T26 l0 x3_1).f0)) := (blk_cell BK158.out 0).trans rfl; have hcz56_1 : w55.cell? ⟨gb158, 1, none⟩ = some (.int .i64 ((rd_T26 l0 x3_1).f1)) := (blk_cell BK158.out 1).trans rfl; have hcz56_2 : w55.cell? ⟨gb158, 2, none⟩ = some (.float .f64 ((rd_T26 l0 x3_1).f2.f0)) := (blk_cell BK158.out 2).trans rfl; have hcz56_3 : w55.cell? ⟨gb158, 3, none⟩ = some (.float .f64 ((rd_T26 l0 x3_1).f2.f1)) := (blk_cell BK158.out 3).trans rfl; have hcz56_4 : w55.cell? ⟨gb158, 4, none⟩ = some (.float .f64 ((rd_T26 l0 x3_1).f2.f2)) := (blk_cell BK158.out 4).trans rfl; have hcz56_5 : w55.cell? ⟨gb158, 5, none⟩ = some (.float .f64 ((rd_T26 l0 x3_1).f2.f3)) := (blk_cell BK158.out 5).trans rfl; have hcz56_6 : w55.cell? ⟨gb158, 6, none⟩ = some (.float .f64 ((rd_T26 l0 x3_1).f2.f4)) := (blk_cell BK158.out 6).trans rfl; have hcz56_7 : w55.cell? ⟨gb158, 7, none⟩ = some (.float .f64 ((rd_T26 l0 x3_1).f2.f5)) := (blk_cell BK158.out 7).trans rfl; have hcz56_8 : w55.cell? ⟨gb158, 8, none⟩ = some (.float .f64 ((rd_T26 l0 x3_1).f2.f6)) := (blk_cell BK158.out 8).trans rfl; have hcz56_9 : w55.cell? ⟨gb158, 9, none⟩ = some (.float .f64 ((rd_T26 l0 x3_1).f2.f7)) := (blk_cell BK158.out 9).trans rfl; have hfz56_0 := blk_frozen BK158.out 0; have hfz56_1 := blk_frozen BK158.out 1; have hfz56_2 := blk_frozen BK158.out 2; have hfz56_3 := blk_frozen BK158.out 3; have hfz56_4 := blk_frozen BK158.out 4; have hfz56_5 := blk_frozen BK158.out 5; have hfz56_6 := blk_frozen BK158.out 6; have hfz56_7 := blk_frozen BK158.out 7; have hfz56_8 := blk_frozen BK158.out 8; have hfz56_9 := blk_frozen BK158.out 9) | (go_at_call 14; (with_reducible refine (arraslaw3_Ask_c.calls ((rd_T26 l0 x3_1).f0) ((rd_T26 l0 x3_1).f1) ((rd_T26 l0 x3_1).f2.f0) ((rd_T26 l0 x3_1).f2.f1) ((rd_T26 l0 x3_1).f2.f2) ((rd_T26 l0 x3_1).f2.f3) ((rd_T26 l0 x3_1).f2.f4) ((rd_T26 l0 x3_1).f2.f5) ((rd_T26 l0 x3_1).f2.f6) ((rd_T26 l0 x3_1).f2.f7) x8_5 t180 _ A49.out).mono ?_); rintro e w57 ⟨rfl, hb⟩; have n0_ := Aside0.mk (blk_below (g := gb158) (o := .cells #[.int .i64 ((rd_T26 l0 x3_1).f0), .int .i64 ((rd_T26 l0 x3_1).f1), .float .f64 ((rd_T26 l0 x3_1).f2.f0), .float .f64 ((rd_T26 l0 x3_1).f2.f1), .float .f64 ((rd_T26 l0 x3_1).f2.f2), .float .f64 ((rd_T26 l0 x3_1).f2.f3), .float .f64 ((rd_T26 l0 x3_1).f2.f4), .float .f64 ((rd_T26 l0 x3_1).f2.f5), .float .f64 ((rd_T26 l0 x3_1).f2.f6), .float .f64 ((rd_T26 l0 x3_1).f2.f7)] 26 (0, 0)) (by (with_reducible repeat (first | refine blk_drewN ?_ _ | refine blk_drew ?_ | refine blk_alloc ?_ _)); exact BK158.out) hb); have n1_ := Aside0.mk (below_step (by repeat (first | (with_reducible first | exact HB.out | apply below_alloc | apply pw_below_drewN | apply below_drew1 | refine below_set ?_ GE158.out) | exact HB.out)) hb); clear BK158; clear HB; have BK158 := n0_; have HB := n1_; clear n0_ n1_; (try clear hb); (try clear hb2); (try clear hk); (try clear hi)) | (go_at_call 19; (with_reducible refine (arrasref3_Y.calls t178 t181 _ A50.out).mono ?_); rintro e w' ⟨rfl, ⟨nd, rfl⟩⟩) | (go_at_call 12; (with_reducible refine (arrasref3_Of.calls t168 t167 t182 _ A52.out).mono ?_); rintro e w' ⟨rfl, ⟨nd, rfl⟩⟩) | (go_at_call 11; (with_reducible refine (arraslaw3_told.calls t171 t172 true t182 t183 _ A53.out).mono ?_); rintro e w' ⟨rfl, ⟨nd, rfl⟩⟩))
                     go_meet
                     case rel => exact ⟨_, (!t183), (by first | rfl | (simp; done) | (simp [*]; done)), H', ⟨by have := HK1.out; have := HJ1.out; have := HJ6.out; have := HJ16.out; have := HK5.out; first | omega | exact Nat.le_refl _⟩, ⟨by (with_reducible repeat (first | refine blk_drewN ?_ _ | refine blk_drew ?_ | refine blk_alloc ?_ _)); exact BK158.out⟩, ⟨by repeat (first | (with_reducible first | exact HB.out | apply below_alloc | apply pw_below_drewN | apply below_drew1 | refine below_set ?_ GE158.out) | exact HB.out)⟩⟩
                    ·rw [if_neg c51] at H
                     have c51b0 : (t168 == t181) = false := beq_eq_false_iff_ne.mpr c51
                     have c51b1 : (t168 != t181) = true := bne_iff_ne.mpr c51
                     have H' := Aside0.mk H
                     clear H
                     go_wp2_with (first | ((with_reducible refine gate_callee (f := 17) rfl ?_); refine goesL_ (some 109) rfl rfl Try.func17 (by kernel_rfl) rfl #[.int .i64 t169] rfl (by (try simp only [List.map_toArray, List.map_cons, List.map_nil]); first | done | rfl | (simp only [List.length_drop, List.length_take]; rfl)) ?_; (with_reducible refine (arraslaw3_num.calls t169 t177 _ A44.out).mono ?_); rintro e w' ⟨rfl, ⟨nd, rfl⟩⟩; refine ⟨_, rfl, ?_⟩; have hcz58_0 : w43.cell? ⟨gb158, 0, none⟩ = some (.int .i64 ((rd_T26 l0 x3_1).f0)) := (blk_cell BK158.out 0).trans rfl; have hcz58_1 : w43.cell? ⟨gb158, 1, none⟩ = some (.int .i64 ((rd_T26 l0 x3_1).f1)) := (blk_cell BK158.out 1).trans rfl; have hcz58_2 : w43.cell? ⟨gb158, 2, none⟩ = some (.float .f64 ((rd_T26 l0 x3_1).f2.f0)) := (blk_cell BK158.out 2).trans rfl; have hcz58_3 : w43.cell? ⟨gb158, 3, none⟩ = some (.float .f64 ((rd_T26 l0 x3_1).f2.f1)) := (blk_cell BK158.out 3).trans rfl; have hcz58_4 : w43.cell? ⟨gb158, 4, none⟩ = some (.float .f64 ((rd_T26 l0 x3_1).f2.f2)) := (blk_cell BK158.out 4).trans rfl; have hcz58_5 : w43.cell? ⟨gb158, 5, none⟩ = some (.float .f64 ((rd_T26 l0 x3_1).f2.f3)) := (blk_cell BK158.out 5).trans rfl; have hcz58_6 : w43.cell? ⟨gb158, 6, none⟩ = some (.float .f64 ((rd_T26 l0 x3_1).f2.f4)) := (blk_cell BK158.out 6).trans rfl; have hcz58_7 : w43.cell? ⟨gb158, 7, none⟩ = some (.float .f64 ((rd_T26 l0 x3_1).f2.f5)) := (blk_cell BK158.out 7).trans rfl; have hcz58_8 : w43.cell? ⟨gb158, 8, none⟩ = some (.float .f64 ((rd_T26 l0 x3_1).f2.f6)) := (blk_cell BK158.out 8).trans rfl; have hcz58_9 : w43.cell? ⟨gb158, 9, none⟩ = some (.float .f64 ((rd_T26 l0 x3_1).f2.f7)) := (blk_cell BK158.out 9).trans rfl; have hfz58_0 := blk_frozen BK158.out 0; have hfz58_1 := blk_frozen BK158.out 1; have hfz58_2 := blk_frozen BK158.out 2; have hfz58_3 := blk_frozen BK158.out 3; have hfz58_4 := blk_frozen BK158.out 4; have hfz58_5 := blk_frozen BK158.out 5; have hfz58_6 := blk_frozen BK158.out 6; have hfz58_7 := blk_frozen BK158.out 7; have hfz58_8 := blk_frozen BK158.out 8; have hfz58_9 := blk_frozen BK158.out 9) | (go_at_call 14; (with_reducible refine (arraslaw3_Ask_c.calls ((rd_T26 l0 x3_1).f0) ((rd_T26 l0 x3_1).f1) ((rd_T26 l0 x3_1).f2.f0) ((rd_T26 l0 x3_1).f2.f1) ((rd_T26 l0 x3_1).f2.f2) ((rd_T26 l0 x3_1).f2.f3) ((rd_T26 l0 x3_1).f2.f4) ((rd_T26 l0 x3_1).f2.f5) ((rd_T26 l0 x3_1).f2.f6) ((rd_T26 l0 x3_1).f2.f7) x8_5 t178 _ A46.out).mono ?_); rintro e w59 ⟨rfl, hb⟩; have n0_ := Aside0.mk (blk_below (g := gb158) (o := .cells #[.int .i64 ((rd_T26 l0 x3_1).f0), .int .i64 ((rd_T26 l0 x3_1).f1), .float .f64 ((rd_T26 l0 x3_1).f2.f0), .float .f64 ((rd_T26 l0 x3_1).f2.f1), .float .f64 ((rd_T26 l0 x3_1).f2.f2), .float .f64 ((rd_T26 l0 x3_1).f2.f3), .float .f64 ((rd_T26 l0 x3_1).f2.f4), .float .f64 ((rd_T26 l0 x3_1).f2.f5), .float .f64 ((rd_T26 l0 x3_1).f2.f6), .float .f64 ((rd_T26 l0 x3_1).f2.f7)] 26 (0, 0)) (by (with_reducible repeat (first | refine blk_drewN ?_ _ | refine blk_drew ?_ | refine blk_alloc ?_ _)); exact BK158.out) hb); have n1_ := Aside0.mk (below_step (by repeat (first | (with_reducible first | exact HB.out | apply below_alloc | apply pw_below_drewN | apply below_drew1 | refine below_set ?_ GE158.out) | exact HB.out)) hb); clear BK158; clear HB; have BK158 := n0_; have HB := n1_; clear n0_ n1_; (try clear hb); (try clear hb2); (try clear hk); (try clear hi)) | (go_at_call 18; (with_reducible refine (arrasref3_X.calls t178 t179 _ A47.out).mono ?_); rintro e w' ⟨rfl, ⟨nd, rfl⟩⟩; have hcz60_0 : w59.cell? ⟨gb158, 0, none⟩ = some (.int .i64 ((rd_T26 l0 x3_1).f0)) := (blk_cell BK158.out 0).trans rfl; have hcz60_1 : w59.cell? ⟨gb158, 1, none⟩ = some (.int .i64 ((rd_T26 l0 x3_1).f1)) := (blk_cell BK158.out 1).trans rfl; have hcz60_2 : w59.cell? ⟨gb158, 2, none⟩ = some (.float .f64 ((rd_T26 l0 x3_1).f2.f0)) := (blk_cell BK158.out 2).trans rfl; have hcz60_3 : w59.cell? ⟨gb158, 3, none⟩ = some (.float .f64 ((rd_T26 l0 x3_1).f2.f1)) := (blk_cell BK158.out 3).trans rfl; have hcz60_4 : w59.cell? ⟨gb158, 4, none⟩ = some (.float .f64 ((rd_T26 l0 x3_1).f2.f2)) := (blk_cell BK158.out 4).trans rfl; have hcz60_5 : w59.cell? ⟨gb158, 5, none⟩ = some (.float .f64 ((rd_T26 l0 x3_1).f2.f3)) := (blk_cell BK158.out 5).trans rfl; have hcz60_6 : w59.cell? ⟨gb158, 6, none⟩ = some (.float .f64 ((rd_T26 l0 x3_1).f2.f4)) := (blk_cell BK158.out 6).trans rfl; have hcz60_7 : w59.cell? ⟨gb158, 7, none⟩ = some (.float .f64 ((rd_T26 l0 x3_1).f2.f5)) := (blk_cell BK158.out 7).trans rfl; have hcz60_8 : w59.cell? ⟨gb158, 8, none⟩ = some (.float .f64 ((rd_T26 l0 x3_1).f2.f6)) := (blk_cell BK158.out 8).trans rfl; have hcz60_9 : w59.cell? ⟨gb158, 9, none⟩ = some (.float .f64 ((rd_T26 l0 x3_1).f2.f7)) := (blk_cell BK158.out 9).trans rfl; have hfz60_0 := blk_frozen BK158.out 0; have hfz60_1 := blk_frozen BK158.out 1; have hfz60_2 := blk_frozen BK158.out 2; have hfz60_3 := blk_frozen BK158.out 3; have hfz60_4 := blk_frozen BK158.out 4; have hfz60_5 := blk_frozen BK158.out 5; have hfz60_6 := blk_frozen BK158.out 6; have hfz60_7 := blk_frozen BK158.out 7; have hfz60_8 := blk_frozen BK158.out 8; have hfz60_9 := blk_frozen BK158.out 9) | (go_at_call 14; (with_reducible refine (arraslaw3_Ask_c.calls ((rd_T26 l0 x3_1).f0) ((rd_T26 l0 x3_1).f1) ((rd_T26 l0 x3_1).f2.f0) ((rd_T26 l0 x3_1).f2.f1) ((rd_T26 l0 x3_1).f2.f2) ((rd_T26 l0 x3_1).f2.f3) ((rd_T26 l0 x3_1).f2.f4) ((rd_T26 l0 x3_1).f2.f5) ((rd_T26 l0 x3_1).f2.f6) ((rd_T26 l0 x3_1).f2.f7) x8_5 t180 _ A49.out).mono ?_); rintro e w61 ⟨rfl, hb⟩; have n0_ := Aside0.mk (blk_below (g := gb158) (o := .cells #[.int .i64 ((rd_T26 l0 x3_1).f0), .int .i64 ((rd_T26 l0 x3_1).f1), .float .f64 ((rd_T26 l0 x3_1).f2.f0), .float .f64 ((rd_T26 l0 x3_1).f2.f1), .float .f64 ((rd_T26 l0 x3_1).f2.f2), .float .f64 ((rd_T26 l0 x3_1).f2.f3), .float .f64 ((rd_T26 l0 x3_1).f2.f4), .float .f64 ((rd_T26 l0 x3_1).f2.f5), .float .f64 ((rd_T26 l0 x3_1).f2.f6), .float .f64 ((rd_T26 l0 x3_1).f2.f7)] 26 (0, 0)) (by (with_reducible repeat (first | refine blk_drewN ?_ _ | refine blk_drew ?_ | refine blk_alloc ?_ _)); exact BK158.out) hb); have n1_ := Aside0.mk (below_step (by repeat (first | (with_reducible first | exact HB.out | apply below_alloc | apply pw_below_drewN | apply below_drew1 | refine below_set ?_ GE158.out) | exact HB.out)) hb); clear BK158; clear HB; have BK158 := n0_; have HB := n1_; clear n0_ n1_; (try clear hb); (try clear hb2); (try clear hk); (try clear hi)) | (go_at_call 19; (with_reducible refine (arrasref3_Y.calls t178 t181 _ A50.out).mono ?_); rintro e w' ⟨rfl, ⟨nd, rfl⟩⟩))
                     go_meet
                     case rel => exact ⟨_, (true), (by first | rfl | (simp; done) | (simp [*]; done)), H', ⟨by have := HK1.out; have := HJ1.out; have := HJ6.out; have := HJ16.out; have := HK5.out; first | omega | exact Nat.le_refl _⟩, ⟨by (with_reducible repeat (first | refine blk_drewN ?_ _ | refine blk_drew ?_ | refine blk_alloc ?_ _)); exact BK158.out⟩, ⟨by repeat (first | (with_reducible first | exact HB.out | apply below_alloc | apply pw_below_drewN | apply below_drew1 | refine below_set ?_ GE158.out) | exact HB.out)⟩⟩
                   ·rw [if_neg c48] at H
                    have c48b0 : (t167 == t179) = false := beq_eq_false_iff_ne.mpr c48
                    have c48b1 : (t167 != t179) = true := bne_iff_ne.mpr c48
                    have H' := Aside0.mk H
                    clear H
                    go_wp2_with (first | ((with_reducible refine gate_callee (f := 17) rfl ?_); refine goesL_ (some 109) rfl rfl Try.func17 (by kernel_rfl) rfl #[.int .i64 t169] rfl (by (try simp only [List.map_toArray, List.map_cons, List.map_nil]); first | done | rfl | (simp only [List.length_drop, List.length_take]; rfl)) ?_; (with_reducible refine (arraslaw3_num.calls t169 t177 _ A44.out).mono ?_); rintro e w' ⟨rfl, ⟨nd, rfl⟩⟩; refine ⟨_, rfl, ?_⟩; have hcz62_0 : w43.cell? ⟨gb158, 0, none⟩ = some (.int .i64 ((rd_T26 l0 x3_1).f0)) := (blk_cell BK158.out 0).trans rfl; have hcz62_1 : w43.cell? ⟨gb158, 1, none⟩ = some (.int .i64 ((rd_T26 l0 x3_1).f1)) := (blk_cell BK158.out 1).trans rfl; have hcz62_2 : w43.cell? ⟨gb158, 2, none⟩ = some (.float .f64 ((rd_T26 l0 x3_1).f2.f0)) := (blk_cell BK158.out 2).trans rfl; have hcz62_3 : w43.cell? ⟨gb158, 3, none⟩ = some (.float .f64 ((rd_T26 l0 x3_1).f2.f1)) := (blk_cell BK158.out 3).trans rfl; have hcz62_4 : w43.cell? ⟨gb158, 4, none⟩ = some (.float .f64 ((rd_T26 l0 x3_1).f2.f2)) := (blk_cell BK158.out 4).trans rfl; have hcz62_5 : w43.cell? ⟨gb158, 5, none⟩ = some (.float .f64 ((rd_T26 l0 x3_1).f2.f3)) := (blk_cell BK158.out 5).trans rfl; have hcz62_6 : w43.cell? ⟨gb158, 6, none⟩ = some (.float .f64 ((rd_T26 l0 x3_1).f2.f4)) := (blk_cell BK158.out 6).trans rfl; have hcz62_7 : w43.cell? ⟨gb158, 7, none⟩ = some (.float .f64 ((rd_T26 l0 x3_1).f2.f5)) := (blk_cell BK158.out 7).trans rfl; have hcz62_8 : w43.cell? ⟨gb158, 8, none⟩ = some (.float .f64 ((rd_T26 l0 x3_1).f2.f6)) := (blk_cell BK158.out 8).trans rfl; have hcz62_9 : w43.cell? ⟨gb158, 9, none⟩ = some (.float .f64 ((rd_T26 l0 x3_1).f2.f7)) := (blk_cell BK158.out 9).trans rfl; have hfz62_0 := blk_frozen BK158.out 0; have hfz62_1 := blk_frozen BK158.out 1; have hfz62_2 := blk_frozen BK158.out 2; have hfz62_3 := blk_frozen BK158.out 3; have hfz62_4 := blk_frozen BK158.out 4; have hfz62_5 := blk_frozen BK158.out 5; have hfz62_6 := blk_frozen BK158.out 6; have hfz62_7 := blk_frozen BK158.out 7; have hfz62_8 := blk_frozen BK158.out 8; have hfz62_9 := blk_frozen BK158.out 9) | (go_at_call 14; (with_reducible refine (arraslaw3_Ask_c.calls ((rd_T26 l0 x3_1).f0) ((rd_T26 l0 x3_1).f1) ((rd_T26 l0 x3_1).f2.f0) ((rd_T26 l0 x3_1).f2.f1) ((rd_T26 l0 x3_1).f2.f2) ((rd_T26 l0 x3_1).f2.f3) ((rd_T26 l0 x3_1).f2.f4) ((rd_T26 l0 x3_1).f2.f5) ((rd_T26 l0 x3_1).f2.f6) ((rd_T26 l0 x3_1).f2.f7) x8_5 t178 _ A46.out).mono ?_); rintro e w63 ⟨rfl, hb⟩; have n0_ := Aside0.mk (blk_below (g := gb158) (o := .cells #[.int .i64 ((rd_T26 l0 x3_1).f0), .int .i64 ((rd_T26 l0 x3_1).f1), .float .f64 ((rd_T26 l0 x3_1).f2.f0), .float .f64 ((rd_T26 l0 x3_1).f2.f1), .float .f64 ((rd_T26 l0 x3_1).f2.f2), .float .f64 ((rd_T26 l0 x3_1).f2.f3), .float .f64 ((rd_T26 l0 x3_1).f2.f4), .float .f64 ((rd_T26 l0 x3_1).f2.f5), .float .f64 ((rd_T26 l0 x3_1).f2.f6), .float .f64 ((rd_T26 l0 x3_1).f2.f7)] 26 (0, 0)) (by (with_reducible repeat (first | refine blk_drewN ?_ _ | refine blk_drew ?_ | refine blk_alloc ?_ _)); exact BK158.out) hb); have n1_ := Aside0.mk (below_step (by repeat (first | (with_reducible first | exact HB.out | apply below_alloc | apply pw_below_drewN | apply below_drew1 | refine below_set ?_ GE158.out) | exact HB.out)) hb); clear BK158; clear HB; have BK158 := n0_; have HB := n1_; clear n0_ n1_; (try clear hb); (try clear hb2); (try clear hk); (try clear hi)) | (go_at_call 18; (with_reducible refine (arrasref3_X.calls t178 t179 _ A47.out).mono ?_); rintro e w' ⟨rfl, ⟨nd, rfl⟩⟩))
                    go_meet
                    case rel => exact ⟨_, (true), (by first | rfl | (simp; done) | (simp [*]; done)), H', ⟨by have := HK1.out; have := HJ1.out; have := HJ6.out; have := HJ16.out; have := HK5.out; first | omega | exact Nat.le_refl _⟩, ⟨by (with_reducible repeat (first | refine blk_drewN ?_ _ | refine blk_drew ?_ | refine blk_alloc ?_ _)); exact BK158.out⟩, ⟨by repeat (first | (with_reducible first | exact HB.out | apply below_alloc | apply pw_below_drewN | apply below_drew1 | refine below_set ?_ GE158.out) | exact HB.out)⟩⟩
                  ·rw [if_neg c45] at H
                   have c45b0 : (t177 == 0) = false := beq_eq_false_iff_ne.mpr c45
                   have c45b1 : (t177 != 0) = true := bne_iff_ne.mpr c45
                   (first | rw [c45b0] | (simp only [i64_w, i32_w]; rw [c45b0]) | skip)
                   have H' := Aside0.mk H
                   clear H
                   go_wp2_with (first | ((with_reducible refine gate_callee (f := 17) rfl ?_); refine goesL_ (some 109) rfl rfl Try.func17 (by kernel_rfl) rfl #[.int .i64 t169] rfl (by (try simp only [List.map_toArray, List.map_cons, List.map_nil]); first | done | rfl | (simp only [List.length_drop, List.length_take]; rfl)) ?_; (with_reducible refine (arraslaw3_num.calls t169 t177 _ A44.out).mono ?_); rintro e w' ⟨rfl, ⟨nd, rfl⟩⟩; refine ⟨_, rfl, ?_⟩))
                   go_meet
                   case rel => exact ⟨_, (true), (by first | rfl | (simp; done) | (simp [*]; done)), H', ⟨by have := HK1.out; have := HJ1.out; have := HJ6.out; have := HJ16.out; have := HK5.out; first | omega | exact Nat.le_refl _⟩, ⟨by (with_reducible repeat (first | refine blk_drewN ?_ _ | refine blk_drew ?_ | refine blk_alloc ?_ _)); exact BK158.out⟩, ⟨by repeat (first | (with_reducible first | exact HB.out | apply below_alloc | apply pw_below_drewN | apply below_drew1 | refine below_set ?_ GE158.out) | exact HB.out)⟩⟩
                 case rest =>
                  clear HC35
                  try clear c1
                  try clear p1
                  try clear q1
                  try clear hx1
                  try clear c2
                  try clear p2
                  try clear c3
                  try clear c3b0
                  try clear c4
                  try clear c5
                  try clear c5b0
                  try clear c6
                  try clear c6b0
                  try clear c9
                  try clear c10
                  try clear c12
                  try clear c13
                  try clear c14
                  try clear c15
                  try clear p15
                  try clear q15
                  try clear hx15
                  try clear c16
                  try clear c17
                  try clear c19
                  try clear c22
                  try clear c26
                  try clear c27
                  try clear c27b0
                  try clear c34
                  try clear c45
                  try clear c45b0
                  try clear c45b1
                  try clear c48
                  try clear c48b0
                  try clear c48b1
                  try clear c51
                  try clear c51b0
                  try clear c51b1
                  try clear hcz14_0
                  try clear hcz14_1
                  try clear hcz14_2
                  try clear hcz14_3
                  try clear hcz14_4
                  try clear hcz14_5
                  try clear hcz14_6
                  try clear hcz14_7
                  try clear hcz14_8
                  try clear hcz14_9
                  try clear hcz15_0
                  try clear hcz15_1
                  try clear hcz15_2
                  try clear hcz15_3
                  try clear hcz15_4
                  try clear hcz15_5
                  try clear hcz15_6
                  try clear hcz15_7
                  try clear hcz15_8
                  try clear hcz15_9
                  try clear hcz18_0
                  try clear hcz18_1
                  try clear hcz18_2
                  try clear hcz18_3
                  try clear hcz18_4
                  try clear hcz18_5
                  try clear hcz18_6
                  try clear hcz18_7
                  try clear hcz18_8
                  try clear hcz18_9
                  try clear hcz23_0
                  try clear hcz23_1
                  try clear hcz23_2
                  try clear hcz23_3
                  try clear hcz23_4
                  try clear hcz23_5
                  try clear hcz23_6
                  try clear hcz23_7
                  try clear hcz23_8
                  try clear hcz23_9
                  try clear hcz24_0
                  try clear hcz24_1
                  try clear hcz24_2
                  try clear hcz24_3
                  try clear hcz24_4
                  try clear hcz24_5
                  try clear hcz24_6
                  try clear hcz24_7
                  try clear hcz24_8
                  try clear hcz24_9
                  try clear hcz36_0
                  try clear hcz36_1
                  try clear hcz36_2
                  try clear hcz36_3
                  try clear hcz36_4
                  try clear hcz36_5
                  try clear hcz36_6
                  try clear hcz36_7
                  try clear hcz36_8
                  try clear hcz36_9
                  try clear hcz39_0
                  try clear hcz39_1
                  try clear hcz39_2
                  try clear hcz39_3
                  try clear hcz39_4
                  try clear hcz39_5
                  try clear hcz39_6
                  try clear hcz39_7
                  try clear hcz39_8
                  try clear hcz39_9
                  try clear hcz42_0
                  try clear hcz42_1
                  try clear hcz42_2
                  try clear hcz42_3
                  try clear hcz42_4
                  try clear hcz42_5
                  try clear hcz42_6
                  try clear hcz42_7
                  try clear hcz42_8
                  try clear hcz42_9
                  try clear hcz54_0
                  try clear hcz54_1
                  try clear hcz54_2
                  try clear hcz54_3
                  try clear hcz54_4
                  try clear hcz54_5
                  try clear hcz54_6
                  try clear hcz54_7
                  try clear hcz54_8
                  try clear hcz54_9
                  try clear hcz56_0
                  try clear hcz56_1
                  try clear hcz56_2
                  try clear hcz56_3
                  try clear hcz56_4
                  try clear hcz56_5
                  try clear hcz56_6
                  try clear hcz56_7
                  try clear hcz56_8
                  try clear hcz56_9
                  try clear hcz58_0
                  try clear hcz58_1
                  try clear hcz58_2
                  try clear hcz58_3
                  try clear hcz58_4
                  try clear hcz58_5
                  try clear hcz58_6
                  try clear hcz58_7
                  try clear hcz58_8
                  try clear hcz58_9
                  try clear hcz60_0
                  try clear hcz60_1
                  try clear hcz60_2
                  try clear hcz60_3
                  try clear hcz60_4
                  try clear hcz60_5
                  try clear hcz60_6
                  try clear hcz60_7
                  try clear hcz60_8
                  try clear hcz60_9
                  try clear hcz62_0
                  try clear hcz62_1
                  try clear hcz62_2
                  try clear hcz62_3
                  try clear hcz62_4
                  try clear hcz62_5
                  try clear hcz62_6
                  try clear hcz62_7
                  try clear hcz62_8
                  try clear hcz62_9
                  try clear hcz9_0
                  try clear hcz9_1
                  try clear hcz9_2
                  try clear hcz9_3
                  try clear hcz9_4
                  try clear hcz9_5
                  try clear hcz9_6
                  try clear hcz9_7
                  try clear hcz9_8
                  try clear hcz9_9
                  try clear hfz14_0
                  try clear hfz14_1
                  try clear hfz14_2
                  try clear hfz14_3
                  try clear hfz14_4
                  try clear hfz14_5
                  try clear hfz14_6
                  try clear hfz14_7
                  try clear hfz14_8
                  try clear hfz14_9
                  try clear hfz15_0
                  try clear hfz15_1
                  try clear hfz15_2
                  try clear hfz15_3
                  try clear hfz15_4
                  try clear hfz15_5
                  try clear hfz15_6
                  try clear hfz15_7
                  try clear hfz15_8
                  try clear hfz15_9
                  try clear hfz18_0
                  try clear hfz18_1
                  try clear hfz18_2
                  try clear hfz18_3
                  try clear hfz18_4
                  try clear hfz18_5
                  try clear hfz18_6
                  try clear hfz18_7
                  try clear hfz18_8
                  try clear hfz18_9
                  try clear hfz23_0
                  try clear hfz23_1
                  try clear hfz23_2
                  try clear hfz23_3
                  try clear hfz23_4
                  try clear hfz23_5
                  try clear hfz23_6
                  try clear hfz23_7
                  try clear hfz23_8
                  try clear hfz23_9
                  try clear hfz24_0
                  try clear hfz24_1
                  try clear hfz24_2
                  try clear hfz24_3
                  try clear hfz24_4
                  try clear hfz24_5
                  try clear hfz24_6
                  try clear hfz24_7
                  try clear hfz24_8
                  try clear hfz24_9
                  try clear hfz36_0
                  try clear hfz36_1
                  try clear hfz36_2
                  try clear hfz36_3
                  try clear hfz36_4
                  try clear hfz36_5
                  try clear hfz36_6
                  try clear hfz36_7
                  try clear hfz36_8
                  try clear hfz36_9
                  try clear hfz39_0
                  try clear hfz39_1
                  try clear hfz39_2
                  try clear hfz39_3
                  try clear hfz39_4
                  try clear hfz39_5
                  try clear hfz39_6
                  try clear hfz39_7
                  try clear hfz39_8
                  try clear hfz39_9
                  try clear hfz42_0
                  try clear hfz42_1
                  try clear hfz42_2
                  try clear hfz42_3
                  try clear hfz42_4
                  try clear hfz42_5
                  try clear hfz42_6
                  try clear hfz42_7
                  try clear hfz42_8
                  try clear hfz42_9
                  try clear hfz54_0
                  try clear hfz54_1
                  try clear hfz54_2
                  try clear hfz54_3
                  try clear hfz54_4
                  try clear hfz54_5
                  try clear hfz54_6
                  try clear hfz54_7
                  try clear hfz54_8
                  try clear hfz54_9
                  try clear hfz56_0
                  try clear hfz56_1
                  try clear hfz56_2
                  try clear hfz56_3
                  try clear hfz56_4
                  try clear hfz56_5
                  try clear hfz56_6
                  try clear hfz56_7
                  try clear hfz56_8
                  try clear hfz56_9
                  try clear hfz58_0
                  try clear hfz58_1
                  try clear hfz58_2
                  try clear hfz58_3
                  try clear hfz58_4
                  try clear hfz58_5
                  try clear hfz58_6
                  try clear hfz58_7
                  try clear hfz58_8
                  try clear hfz58_9
                  try clear hfz60_0
                  try clear hfz60_1
                  try clear hfz60_2
                  try clear hfz60_3
                  try clear hfz60_4
                  try clear hfz60_5
                  try clear hfz60_6
                  try clear hfz60_7
                  try clear hfz60_8
                  try clear hfz60_9
                  try clear hfz62_0
                  try clear hfz62_1
                  try clear hfz62_2
                  try clear hfz62_3
                  try clear hfz62_4
                  try clear hfz62_5
                  try clear hfz62_6
                  try clear hfz62_7
                  try clear hfz62_8
                  try clear hfz62_9
                  try clear hfz9_0
                  try clear hfz9_1
                  try clear hfz9_2
                  try clear hfz9_3
                  try clear hfz9_4
                  try clear hfz9_5
                  try clear hfz9_6
                  try clear hfz9_7
                  try clear hfz9_8
                  try clear hfz9_9
                  try clear hx157_0
                  try clear hx157_1
                  try clear hx157_2
                  try clear hx157_3
                  try clear hx157_4
                  try clear hx157_5
                  try clear hx157_6
                  try clear hx157_7
                  try clear hx157_8
                  try clear hx157_9
                  try clear p1
                  try clear p15
                  try clear p157
                  try clear p2
                  try clear q1
                  try clear q15
                  try clear q157
                  obtain ⟨kq, x135_34, rfl, HA, HJ34, BK158, HB⟩ := hcut
                  cases kq with
                  | zero => exact absurd HA.out (by simp [arraslaw3_PointNumbers.j6])
                  | succ kj34 =>
                   have H := HA.out
                   clear HA
                   simp only [arraslaw3_PointNumbers.j6] at H
                   by_cases c64 : x135_34 = true
                   ·subst c64
                    have H1 : (some false) = some r := by rw [if_pos rfl] at H; exact H
                    clear H; have H := H1; clear H1
                    obtain rfl := Option.some.inj H
                    go_wp2
                    go_ret
                    exact ⟨by first | rfl | (simp [errW_none, errW_some] <;> rfl) | (simp [*, errW_none, errW_some] <;> rfl), by repeat (first | (with_reducible first | exact HB.out | apply below_alloc | apply pw_below_drewN | apply below_drew1 | refine below_set ?_ GE158.out) | exact HB.out)⟩
                   ·replace c64 := Bool.eq_false_iff.mpr c64
                    subst c64
                    have H1 : (arraslaw3_PointNumbers.l1 kj34 l0 x3_1 (wrap64 (x8_5 + 1)) ((rd_T26 l0 x3_1).f0) ((rd_T26 l0 x3_1).f1) ((rd_T26 l0 x3_1).f2.f0) ((rd_T26 l0 x3_1).f2.f1) ((rd_T26 l0 x3_1).f2.f2) ((rd_T26 l0 x3_1).f2.f3) ((rd_T26 l0 x3_1).f2.f4) ((rd_T26 l0 x3_1).f2.f5) ((rd_T26 l0 x3_1).f2.f6) ((rd_T26 l0 x3_1).f2.f7)) = some r := by rw [if_neg (show ¬ (false = true) by decide)] at H; exact H
                    clear H; have H := H1; clear H1
                    have H' := Aside0.mk H
                    clear H
                    go_wp2
                    go_roundg kj34
                    case measure => have := HK1.out; have := HJ1.out; have := HJ6.out; have := HJ16.out; have := HK5.out; have := HJ34.out; omega
                    case rel => exact ⟨(wrap64 (x8_5 + 1)), (by first | rfl | (simp; done) | (simp [*]; done)), H', ⟨by have := HK1.out; have := HJ1.out; have := HJ6.out; have := HJ16.out; have := HK5.out; have := HJ34.out; omega⟩, ⟨by (with_reducible repeat (first | refine blk_drewN ?_ _ | refine blk_drew ?_ | refine blk_alloc ?_ _)); exact BK158.out⟩, ⟨by repeat (first | (with_reducible first | exact HB.out | apply below_alloc | apply pw_below_drewN | apply below_drew1 | refine below_set ?_ GE158.out) | exact HB.out)⟩⟩
                ·replace c34 := Bool.eq_false_iff.mpr c34
                 subst c34
                 have H1 : ((arraslaw3_num.f t169).bind fun t175 => (if t175 = 1 then (if t167 = 0 then (if t168 = 0 then ((arraslaw3_num.f t172).bind fun t176 => (arraslaw3_PointNumbers.j5 k5 l0 x3_1 x8_5 (t176 != 1) ((rd_T26 l0 x3_1).f0) ((rd_T26 l0 x3_1).f1) ((rd_T26 l0 x3_1).f2.f0) ((rd_T26 l0 x3_1).f2.f1) ((rd_T26 l0 x3_1).f2.f2) ((rd_T26 l0 x3_1).f2.f3) ((rd_T26 l0 x3_1).f2.f4) ((rd_T26 l0 x3_1).f2.f5) ((rd_T26 l0 x3_1).f2.f6) ((rd_T26 l0 x3_1).f2.f7))) else (arraslaw3_PointNumbers.j5 k5 l0 x3_1 x8_5 true ((rd_T26 l0 x3_1).f0) ((rd_T26 l0 x3_1).f1) ((rd_T26 l0 x3_1).f2.f0) ((rd_T26 l0 x3_1).f2.f1) ((rd_T26 l0 x3_1).f2.f2) ((rd_T26 l0 x3_1).f2.f3) ((rd_T26 l0 x3_1).f2.f4) ((rd_T26 l0 x3_1).f2.f5) ((rd_T26 l0 x3_1).f2.f6) ((rd_T26 l0 x3_1).f2.f7))) else (arraslaw3_PointNumbers.j5 k5 l0 x3_1 x8_5 true ((rd_T26 l0 x3_1).f0) ((rd_T26 l0 x3_1).f1) ((rd_T26 l0 x3_1).f2.f0) ((rd_T26 l0 x3_1).f2.f1) ((rd_T26 l0 x3_1).f2.f2) ((rd_T26 l0 x3_1).f2.f3) ((rd_T26 l0 x3_1).f2.f4) ((rd_T26 l0 x3_1).f2.f5) ((rd_T26 l0 x3_1).f2.f6) ((rd_T26 l0 x3_1).f2.f7))) else (arraslaw3_PointNumbers.j5 k5 l0 x3_1 x8_5 true ((rd_T26 l0 x3_1).f0) ((rd_T26 l0 x3_1).f1) ((rd_T26 l0 x3_1).f2.f0) ((rd_T26 l0 x3_1).f2.f1) ((rd_T26 l0 x3_1).f2.f2) ((rd_T26 l0 x3_1).f2.f3) ((rd_T26 l0 x3_1).f2.f4) ((rd_T26 l0 x3_1).f2.f5) ((rd_T26 l0 x3_1).f2.f6) ((rd_T26 l0 x3_1).f2.f7)))) = some r := by rw [if_neg (show ¬ (false = true) by decide)] at H; exact H
                 clear H; have H := H1; clear H1; have HC65 := Aside0.mk H; clear H
                 have hcz66_0 : wr.cell? ⟨gb158, 0, none⟩ = some (.int .i64 ((rd_T26 l0 x3_1).f0)) := (blk_cell BK158.out 0).trans rfl
                 have hcz66_1 : wr.cell? ⟨gb158, 1, none⟩ = some (.int .i64 ((rd_T26 l0 x3_1).f1)) := (blk_cell BK158.out 1).trans rfl
                 have hcz66_2 : wr.cell? ⟨gb158, 2, none⟩ = some (.float .f64 ((rd_T26 l0 x3_1).f2.f0)) := (blk_cell BK158.out 2).trans rfl
                 have hcz66_3 : wr.cell? ⟨gb158, 3, none⟩ = some (.float .f64 ((rd_T26 l0 x3_1).f2.f1)) := (blk_cell BK158.out 3).trans rfl
                 have hcz66_4 : wr.cell? ⟨gb158, 4, none⟩ = some (.float .f64 ((rd_T26 l0 x3_1).f2.f2)) := (blk_cell BK158.out 4).trans rfl
                 have hcz66_5 : wr.cell? ⟨gb158, 5, none⟩ = some (.float .f64 ((rd_T26 l0 x3_1).f2.f3)) := (blk_cell BK158.out 5).trans rfl
                 have hcz66_6 : wr.cell? ⟨gb158, 6, none⟩ = some (.float .f64 ((rd_T26 l0 x3_1).f2.f4)) := (blk_cell BK158.out 6).trans rfl
                 have hcz66_7 : wr.cell? ⟨gb158, 7, none⟩ = some (.float .f64 ((rd_T26 l0 x3_1).f2.f5)) := (blk_cell BK158.out 7).trans rfl
                 have hcz66_8 : wr.cell? ⟨gb158, 8, none⟩ = some (.float .f64 ((rd_T26 l0 x3_1).f2.f6)) := (blk_cell BK158.out 8).trans rfl
                 have hcz66_9 : wr.cell? ⟨gb158, 9, none⟩ = some (.float .f64 ((rd_T26 l0 x3_1).f2.f7)) := (blk_cell BK158.out 9).trans rfl
                 have hfz66_0 := blk_frozen BK158.out 0
                 have hfz66_1 := blk_frozen BK158.out 1
                 have hfz66_2 := blk_frozen BK158.out 2
                 have hfz66_3 := blk_frozen BK158.out 3
                 have hfz66_4 := blk_frozen BK158.out 4
                 have hfz66_5 := blk_frozen BK158.out 5
                 have hfz66_6 := blk_frozen BK158.out 6
                 have hfz66_7 := blk_frozen BK158.out 7
                 have hfz66_8 := blk_frozen BK158.out 8
                 have hfz66_9 := blk_frozen BK158.out 9
                 go_upto_region 15 with (first | ((with_reducible refine gate_callee (f := 14) rfl ?_); refine goesL_ (some 75) rfl rfl Try.func14 (by kernel_rfl) rfl #[.agg #[.int .i64 ((rd_T26 l0 x3_1).f0), .int .i64 ((rd_T26 l0 x3_1).f1), .float .f64 ((rd_T26 l0 x3_1).f2.f0), .float .f64 ((rd_T26 l0 x3_1).f2.f1), .float .f64 ((rd_T26 l0 x3_1).f2.f2), .float .f64 ((rd_T26 l0 x3_1).f2.f3), .float .f64 ((rd_T26 l0 x3_1).f2.f4), .float .f64 ((rd_T26 l0 x3_1).f2.f5), .float .f64 ((rd_T26 l0 x3_1).f2.f6), .float .f64 ((rd_T26 l0 x3_1).f2.f7)], .int .i64 x8_5] rfl (by (try simp only [List.map_toArray, List.map_cons, List.map_nil]); first | done | rfl | (simp only [List.length_drop, List.length_take]; rfl)) ?_; (with_reducible refine (arraslaw3_Ask_c.calls ((rd_T26 l0 x3_1).f0) ((rd_T26 l0 x3_1).f1) ((rd_T26 l0 x3_1).f2.f0) ((rd_T26 l0 x3_1).f2.f1) ((rd_T26 l0 x3_1).f2.f2) ((rd_T26 l0 x3_1).f2.f3) ((rd_T26 l0 x3_1).f2.f4) ((rd_T26 l0 x3_1).f2.f5) ((rd_T26 l0 x3_1).f2.f6) ((rd_T26 l0 x3_1).f2.f7) x8_5 t166 _ A28.out).mono ?_); rintro e w67 ⟨rfl, hb⟩; refine ⟨_, rfl, ?_⟩; have n0_ := Aside0.mk (blk_below (g := gb158) (o := .cells #[.int .i64 ((rd_T26 l0 x3_1).f0), .int .i64 ((rd_T26 l0 x3_1).f1), .float .f64 ((rd_T26 l0 x3_1).f2.f0), .float .f64 ((rd_T26 l0 x3_1).f2.f1), .float .f64 ((rd_T26 l0 x3_1).f2.f2), .float .f64 ((rd_T26 l0 x3_1).f2.f3), .float .f64 ((rd_T26 l0 x3_1).f2.f4), .float .f64 ((rd_T26 l0 x3_1).f2.f5), .float .f64 ((rd_T26 l0 x3_1).f2.f6), .float .f64 ((rd_T26 l0 x3_1).f2.f7)] 26 (0, 0)) (by (with_reducible repeat (first | refine blk_drewN ?_ _ | refine blk_drew ?_ | refine blk_alloc ?_ _)); exact BK158.out) hb); have n1_ := Aside0.mk (below_step (by repeat (first | (with_reducible first | exact HB.out | apply below_alloc | apply pw_below_drewN | apply below_drew1 | refine below_set ?_ GE158.out) | exact HB.out)) hb); clear BK158; clear HB; have BK158 := n0_; have HB := n1_; clear n0_ n1_; (try clear hb); (try clear hb2); (try clear hk); (try clear hi)) | ((with_reducible refine gate_callee (f := 13) rfl ?_); refine goesL_ (some 76) rfl rfl Try.func13 (by kernel_rfl) rfl #[.complex .f64 t166.1 t166.2] rfl (by (try simp only [List.map_toArray, List.map_cons, List.map_nil]); first | done | rfl | (simp only [List.length_drop, List.length_take]; rfl)) ?_; (with_reducible refine (point_Parts.calls k5 t166 t167 t168 t169 _ A29.out).mono ?_); rintro e w68 ⟨rfl, hb⟩; refine ⟨_, rfl, ?_⟩; have n0_ := Aside0.mk (blk_below (g := gb158) (o := .cells #[.int .i64 ((rd_T26 l0 x3_1).f0), .int .i64 ((rd_T26 l0 x3_1).f1), .float .f64 ((rd_T26 l0 x3_1).f2.f0), .float .f64 ((rd_T26 l0 x3_1).f2.f1), .float .f64 ((rd_T26 l0 x3_1).f2.f2), .float .f64 ((rd_T26 l0 x3_1).f2.f3), .float .f64 ((rd_T26 l0 x3_1).f2.f4), .float .f64 ((rd_T26 l0 x3_1).f2.f5), .float .f64 ((rd_T26 l0 x3_1).f2.f6), .float .f64 ((rd_T26 l0 x3_1).f2.f7)] 26 (0, 0)) (by (with_reducible repeat (first | refine blk_drewN ?_ _ | refine blk_drew ?_ | refine blk_alloc ?_ _)); exact BK158.out) hb); have n1_ := Aside0.mk (below_step (by repeat (first | (with_reducible first | exact HB.out | apply below_alloc | apply pw_below_drewN | apply below_drew1 | refine below_set ?_ GE158.out) | exact HB.out)) hb); clear BK158; clear HB; have BK158 := n0_; have HB := n1_; clear n0_ n1_; (try clear hb); (try clear hb2); (try clear hk); (try clear hi); have hcz69_0 : w68.cell? ⟨gb158, 0, none⟩ = some (.int .i64 ((rd_T26 l0 x3_1).f0)) := (blk_cell BK158.out 0).trans rfl; have hcz69_1 : w68.cell? ⟨gb158, 1, none⟩ = some (.int .i64 ((rd_T26 l0 x3_1).f1)) := (blk_cell BK158.out 1).trans rfl; have hcz69_2 : w68.cell? ⟨gb158, 2, none⟩ = some (.float .f64 ((rd_T26 l0 x3_1).f2.f0)) := (blk_cell BK158.out 2).trans rfl; have hcz69_3 : w68.cell? ⟨gb158, 3, none⟩ = some (.float .f64 ((rd_T26 l0 x3_1).f2.f1)) := (blk_cell BK158.out 3).trans rfl; have hcz69_4 : w68.cell? ⟨gb158, 4, none⟩ = some (.float .f64 ((rd_T26 l0 x3_1).f2.f2)) := (blk_cell BK158.out 4).trans rfl; have hcz69_5 : w68.cell? ⟨gb158, 5, none⟩ = some (.float .f64 ((rd_T26 l0 x3_1).f2.f3)) := (blk_cell BK158.out 5).trans rfl; have hcz69_6 : w68.cell? ⟨gb158, 6, none⟩ = some (.float .f64 ((rd_T26 l0 x3_1).f2.f4)) := (blk_cell BK158.out 6).trans rfl; have hcz69_7 : w68.cell? ⟨gb158, 7, none⟩ = some (.float .f64 ((rd_T26 l0 x3_1).f2.f5)) := (blk_cell BK158.out 7).trans rfl; have hcz69_8 : w68.cell? ⟨gb158, 8, none⟩ = some (.float .f64 ((rd_T26 l0 x3_1).f2.f6)) := (blk_cell BK158.out 8).trans rfl; have hcz69_9 : w68.cell? ⟨gb158, 9, none⟩ = some (.float .f64 ((rd_T26 l0 x3_1).f2.f7)) := (blk_cell BK158.out 9).trans rfl; have hfz69_0 := blk_frozen BK158.out 0; have hfz69_1 := blk_frozen BK158.out 1; have hfz69_2 := blk_frozen BK158.out 2; have hfz69_3 := blk_frozen BK158.out 3; have hfz69_4 := blk_frozen BK158.out 4; have hfz69_5 := blk_frozen BK158.out 5; have hfz69_6 := blk_frozen BK158.out 6; have hfz69_7 := blk_frozen BK158.out 7; have hfz69_8 := blk_frozen BK158.out 8; have hfz69_9 := blk_frozen BK158.out 9) | ((with_reducible refine gate_callee (f := 14) rfl ?_); refine goesL_ (some 83) rfl rfl Try.func14 (by kernel_rfl) rfl #[.agg #[.int .i64 ((rd_T26 l0 x3_1).f0), .int .i64 ((rd_T26 l0 x3_1).f1), .float .f64 ((rd_T26 l0 x3_1).f2.f0), .float .f64 ((rd_T26 l0 x3_1).f2.f1), .float .f64 ((rd_T26 l0 x3_1).f2.f2), .float .f64 ((rd_T26 l0 x3_1).f2.f3), .float .f64 ((rd_T26 l0 x3_1).f2.f4), .float .f64 ((rd_T26 l0 x3_1).f2.f5), .float .f64 ((rd_T26 l0 x3_1).f2.f6), .float .f64 ((rd_T26 l0 x3_1).f2.f7)], .int .i64 x8_5] rfl (by (try simp only [List.map_toArray, List.map_cons, List.map_nil]); first | done | rfl | (simp only [List.length_drop, List.length_take]; rfl)) ?_; (with_reducible refine (arraslaw3_Ask_c.calls ((rd_T26 l0 x3_1).f0) ((rd_T26 l0 x3_1).f1) ((rd_T26 l0 x3_1).f2.f0) ((rd_T26 l0 x3_1).f2.f1) ((rd_T26 l0 x3_1).f2.f2) ((rd_T26 l0 x3_1).f2.f3) ((rd_T26 l0 x3_1).f2.f4) ((rd_T26 l0 x3_1).f2.f5) ((rd_T26 l0 x3_1).f2.f6) ((rd_T26 l0 x3_1).f2.f7) x8_5 t170 _ A30.out).mono ?_); rintro e w70 ⟨rfl, hb⟩; refine ⟨_, rfl, ?_⟩; have n0_ := Aside0.mk (blk_below (g := gb158) (o := .cells #[.int .i64 ((rd_T26 l0 x3_1).f0), .int .i64 ((rd_T26 l0 x3_1).f1), .float .f64 ((rd_T26 l0 x3_1).f2.f0), .float .f64 ((rd_T26 l0 x3_1).f2.f1), .float .f64 ((rd_T26 l0 x3_1).f2.f2), .float .f64 ((rd_T26 l0 x3_1).f2.f3), .float .f64 ((rd_T26 l0 x3_1).f2.f4), .float .f64 ((rd_T26 l0 x3_1).f2.f5), .float .f64 ((rd_T26 l0 x3_1).f2.f6), .float .f64 ((rd_T26 l0 x3_1).f2.f7)] 26 (0, 0)) (by (with_reducible repeat (first | refine blk_drewN ?_ _ | refine blk_drew ?_ | refine blk_alloc ?_ _)); exact BK158.out) hb); have n1_ := Aside0.mk (below_step (by repeat (first | (with_reducible first | exact HB.out | apply below_alloc | apply pw_below_drewN | apply below_drew1 | refine below_set ?_ GE158.out) | exact HB.out)) hb); clear BK158; clear HB; have BK158 := n0_; have HB := n1_; clear n0_ n1_; (try clear hb); (try clear hb2); (try clear hk); (try clear hi)) | ((with_reducible refine gate_callee (f := 15) rfl ?_); refine goesL_ (some 84) rfl rfl Try.func15 (by kernel_rfl) rfl #[.complex .f64 t170.1 t170.2] rfl (by (try simp only [List.map_toArray, List.map_cons, List.map_nil]); first | done | rfl | (simp only [List.length_drop, List.length_take]; rfl)) ?_; (with_reducible refine (point_Turn.calls k5 t170 t171 t172 _ A31.out).mono ?_); rintro e w71 ⟨rfl, hb⟩; refine ⟨_, rfl, ?_⟩; have n0_ := Aside0.mk (blk_below (g := gb158) (o := .cells #[.int .i64 ((rd_T26 l0 x3_1).f0), .int .i64 ((rd_T26 l0 x3_1).f1), .float .f64 ((rd_T26 l0 x3_1).f2.f0), .float .f64 ((rd_T26 l0 x3_1).f2.f1), .float .f64 ((rd_T26 l0 x3_1).f2.f2), .float .f64 ((rd_T26 l0 x3_1).f2.f3), .float .f64 ((rd_T26 l0 x3_1).f2.f4), .float .f64 ((rd_T26 l0 x3_1).f2.f5), .float .f64 ((rd_T26 l0 x3_1).f2.f6), .float .f64 ((rd_T26 l0 x3_1).f2.f7)] 26 (0, 0)) (by (with_reducible repeat (first | refine blk_drewN ?_ _ | refine blk_drew ?_ | refine blk_alloc ?_ _)); exact BK158.out) hb); have n1_ := Aside0.mk (below_step (by repeat (first | (with_reducible first | exact HB.out | apply below_alloc | apply pw_below_drewN | apply below_drew1 | refine below_set ?_ GE158.out) | exact HB.out)) hb); clear BK158; clear HB; have BK158 := n0_; have HB := n1_; clear n0_ n1_; (try clear hb); (try clear hb2); (try clear hk); (try clear hi); have hcz72_0 : w71.cell? ⟨gb158, 0, none⟩ = some (.int .i64 ((rd_T26 l0 x3_1).f0)) := (blk_cell BK158.out 0).trans rfl; have hcz72_1 : w71.cell? ⟨gb158, 1, none⟩ = some (.int .i64 ((rd_T26 l0 x3_1).f1)) := (blk_cell BK158.out 1).trans rfl; have hcz72_2 : w71.cell? ⟨gb158, 2, none⟩ = some (.float .f64 ((rd_T26 l0 x3_1).f2.f0)) := (blk_cell BK158.out 2).trans rfl; have hcz72_3 : w71.cell? ⟨gb158, 3, none⟩ = some (.float .f64 ((rd_T26 l0 x3_1).f2.f1)) := (blk_cell BK158.out 3).trans rfl; have hcz72_4 : w71.cell? ⟨gb158, 4, none⟩ = some (.float .f64 ((rd_T26 l0 x3_1).f2.f2)) := (blk_cell BK158.out 4).trans rfl; have hcz72_5 : w71.cell? ⟨gb158, 5, none⟩ = some (.float .f64 ((rd_T26 l0 x3_1).f2.f3)) := (blk_cell BK158.out 5).trans rfl; have hcz72_6 : w71.cell? ⟨gb158, 6, none⟩ = some (.float .f64 ((rd_T26 l0 x3_1).f2.f4)) := (blk_cell BK158.out 6).trans rfl; have hcz72_7 : w71.cell? ⟨gb158, 7, none⟩ = some (.float .f64 ((rd_T26 l0 x3_1).f2.f5)) := (blk_cell BK158.out 7).trans rfl; have hcz72_8 : w71.cell? ⟨gb158, 8, none⟩ = some (.float .f64 ((rd_T26 l0 x3_1).f2.f6)) := (blk_cell BK158.out 8).trans rfl; have hcz72_9 : w71.cell? ⟨gb158, 9, none⟩ = some (.float .f64 ((rd_T26 l0 x3_1).f2.f7)) := (blk_cell BK158.out 9).trans rfl; have hfz72_0 := blk_frozen BK158.out 0; have hfz72_1 := blk_frozen BK158.out 1; have hfz72_2 := blk_frozen BK158.out 2; have hfz72_3 := blk_frozen BK158.out 3; have hfz72_4 := blk_frozen BK158.out 4; have hfz72_5 := blk_frozen BK158.out 5; have hfz72_6 := blk_frozen BK158.out 6; have hfz72_7 := blk_frozen BK158.out 7; have hfz72_8 := blk_frozen BK158.out 8; have hfz72_9 := blk_frozen BK158.out 9) | ((with_reducible refine gate_callee (f := 14) rfl ?_); refine goesL_ (some 89) rfl rfl Try.func14 (by kernel_rfl) rfl #[.agg #[.int .i64 ((rd_T26 l0 x3_1).f0), .int .i64 ((rd_T26 l0 x3_1).f1), .float .f64 ((rd_T26 l0 x3_1).f2.f0), .float .f64 ((rd_T26 l0 x3_1).f2.f1), .float .f64 ((rd_T26 l0 x3_1).f2.f2), .float .f64 ((rd_T26 l0 x3_1).f2.f3), .float .f64 ((rd_T26 l0 x3_1).f2.f4), .float .f64 ((rd_T26 l0 x3_1).f2.f5), .float .f64 ((rd_T26 l0 x3_1).f2.f6), .float .f64 ((rd_T26 l0 x3_1).f2.f7)], .int .i64 x8_5] rfl (by (try simp only [List.map_toArray, List.map_cons, List.map_nil]); first | done | rfl | (simp only [List.length_drop, List.length_take]; rfl)) ?_; (with_reducible refine (arraslaw3_Ask_c.calls ((rd_T26 l0 x3_1).f0) ((rd_T26 l0 x3_1).f1) ((rd_T26 l0 x3_1).f2.f0) ((rd_T26 l0 x3_1).f2.f1) ((rd_T26 l0 x3_1).f2.f2) ((rd_T26 l0 x3_1).f2.f3) ((rd_T26 l0 x3_1).f2.f4) ((rd_T26 l0 x3_1).f2.f5) ((rd_T26 l0 x3_1).f2.f6) ((rd_T26 l0 x3_1).f2.f7) x8_5 t173 _ A32.out).mono ?_); rintro e w73 ⟨rfl, hb⟩; refine ⟨_, rfl, ?_⟩; have n0_ := Aside0.mk (blk_below (g := gb158) (o := .cells #[.int .i64 ((rd_T26 l0 x3_1).f0), .int .i64 ((rd_T26 l0 x3_1).f1), .float .f64 ((rd_T26 l0 x3_1).f2.f0), .float .f64 ((rd_T26 l0 x3_1).f2.f1), .float .f64 ((rd_T26 l0 x3_1).f2.f2), .float .f64 ((rd_T26 l0 x3_1).f2.f3), .float .f64 ((rd_T26 l0 x3_1).f2.f4), .float .f64 ((rd_T26 l0 x3_1).f2.f5), .float .f64 ((rd_T26 l0 x3_1).f2.f6), .float .f64 ((rd_T26 l0 x3_1).f2.f7)] 26 (0, 0)) (by (with_reducible repeat (first | refine blk_drewN ?_ _ | refine blk_drew ?_ | refine blk_alloc ?_ _)); exact BK158.out) hb); have n1_ := Aside0.mk (below_step (by repeat (first | (with_reducible first | exact HB.out | apply below_alloc | apply pw_below_drewN | apply below_drew1 | refine below_set ?_ GE158.out) | exact HB.out)) hb); clear BK158; clear HB; have BK158 := n0_; have HB := n1_; clear n0_ n1_; (try clear hb); (try clear hb2); (try clear hk); (try clear hi)) | ((with_reducible refine gate_callee (f := 16) rfl ?_); refine goesL_ (some 90) rfl rfl Try.func16 (by kernel_rfl) rfl #[.complex .f64 t173.1 t173.2] rfl (by (try simp only [List.map_toArray, List.map_cons, List.map_nil]); first | done | rfl | (simp only [List.length_drop, List.length_take]; rfl)) ?_; (with_reducible refine (arrasref3_Point.calls t173 false _ A33.out).mono ?_); rintro e w' ⟨rfl, ⟨nd, rfl⟩⟩; refine ⟨_, rfl, ?_⟩))
                 (try simp only [Act.put, List.setIfInBounds_toArray, List.set_cons_zero, List.set_cons_succ])
                 go_cut [107] (fun v107 wc => ∃ (kq : Nat) (x107_64 : Bool), v107 = .bool x107_64 ∧ Aside0 (arraslaw3_PointNumbers.j5 kq l0 x3_1 x8_5 x107_64 ((rd_T26 l0 x3_1).f0) ((rd_T26 l0 x3_1).f1) ((rd_T26 l0 x3_1).f2.f0) ((rd_T26 l0 x3_1).f2.f1) ((rd_T26 l0 x3_1).f2.f2) ((rd_T26 l0 x3_1).f2.f3) ((rd_T26 l0 x3_1).f2.f4) ((rd_T26 l0 x3_1).f2.f5) ((rd_T26 l0 x3_1).f2.f6) ((rd_T26 l0 x3_1).f2.f7) = some r) ∧ Aside0 (kq ≤ k5) ∧ Aside0 (wc.heap[gb158]? = some (.cells #[.int .i64 ((rd_T26 l0 x3_1).f0), .int .i64 ((rd_T26 l0 x3_1).f1), .float .f64 ((rd_T26 l0 x3_1).f2.f0), .float .f64 ((rd_T26 l0 x3_1).f2.f1), .float .f64 ((rd_T26 l0 x3_1).f2.f2), .float .f64 ((rd_T26 l0 x3_1).f2.f3), .float .f64 ((rd_T26 l0 x3_1).f2.f4), .float .f64 ((rd_T26 l0 x3_1).f2.f5), .float .f64 ((rd_T26 l0 x3_1).f2.f6), .float .f64 ((rd_T26 l0 x3_1).f2.f7)] 26 (0, 0))) ∧ Aside0 (Below w.heap.size w wc))
                 case first =>
                  have H := HC65.out
                  clear HC65
                  replace H := Option.bind_eq_some_iff.mp H
                  obtain ⟨t175, A740, H⟩ := H
                  replace H : (if t175 = 1 then (if t167 = 0 then (if t168 = 0 then ((arraslaw3_num.f t172).bind fun t176 => (arraslaw3_PointNumbers.j5 k5 l0 x3_1 x8_5 (t176 != 1) ((rd_T26 l0 x3_1).f0) ((rd_T26 l0 x3_1).f1) ((rd_T26 l0 x3_1).f2.f0) ((rd_T26 l0 x3_1).f2.f1) ((rd_T26 l0 x3_1).f2.f2) ((rd_T26 l0 x3_1).f2.f3) ((rd_T26 l0 x3_1).f2.f4) ((rd_T26 l0 x3_1).f2.f5) ((rd_T26 l0 x3_1).f2.f6) ((rd_T26 l0 x3_1).f2.f7))) else (arraslaw3_PointNumbers.j5 k5 l0 x3_1 x8_5 true ((rd_T26 l0 x3_1).f0) ((rd_T26 l0 x3_1).f1) ((rd_T26 l0 x3_1).f2.f0) ((rd_T26 l0 x3_1).f2.f1) ((rd_T26 l0 x3_1).f2.f2) ((rd_T26 l0 x3_1).f2.f3) ((rd_T26 l0 x3_1).f2.f4) ((rd_T26 l0 x3_1).f2.f5) ((rd_T26 l0 x3_1).f2.f6) ((rd_T26 l0 x3_1).f2.f7))) else (arraslaw3_PointNumbers.j5 k5 l0 x3_1 x8_5 true ((rd_T26 l0 x3_1).f0) ((rd_T26 l0 x3_1).f1) ((rd_T26 l0 x3_1).f2.f0) ((rd_T26 l0 x3_1).f2.f1) ((rd_T26 l0 x3_1).f2.f2) ((rd_T26 l0 x3_1).f2.f3) ((rd_T26 l0 x3_1).f2.f4) ((rd_T26 l0 x3_1).f2.f5) ((rd_T26 l0 x3_1).f2.f6) ((rd_T26 l0 x3_1).f2.f7))) else (arraslaw3_PointNumbers.j5 k5 l0 x3_1 x8_5 true ((rd_T26 l0 x3_1).f0) ((rd_T26 l0 x3_1).f1) ((rd_T26 l0 x3_1).f2.f0) ((rd_T26 l0 x3_1).f2.f1) ((rd_T26 l0 x3_1).f2.f2) ((rd_T26 l0 x3_1).f2.f3) ((rd_T26 l0 x3_1).f2.f4) ((rd_T26 l0 x3_1).f2.f5) ((rd_T26 l0 x3_1).f2.f6) ((rd_T26 l0 x3_1).f2.f7))) = some r := H
                  have A74 := Aside0.mk A740; clear A740
                  by_cases c75 : t175 = 1
                  ·rw [if_pos c75] at H
                   have c75b0 : (t175 == 1) = true := beq_iff_eq.mpr c75
                   have c75b1 : (t175 != 1) = false := bne_eq_false_iff_eq.mpr c75
                   clear c75
                   (first | rw [c75b0] | (simp only [i64_w, i32_w]; rw [c75b0]) | skip)
                   by_cases c76 : t167 = 0
                   ·rw [if_pos c76] at H
                    have c76b0 : (t167 == 0) = true := beq_iff_eq.mpr c76
                    have c76b1 : (t167 != 0) = false := bne_eq_false_iff_eq.mpr c76
                    clear c76
                    by_cases c77 : t168 = 0
                    ·rw [if_pos c77] at H
                     have c77b0 : (t168 == 0) = true := beq_iff_eq.mpr c77
                     have c77b1 : (t168 != 0) = false := bne_eq_false_iff_eq.mpr c77
                     clear c77
                     replace H := Option.bind_eq_some_iff.mp H
                     obtain ⟨t176, A780, H⟩ := H
                     replace H : (arraslaw3_PointNumbers.j5 k5 l0 x3_1 x8_5 (t176 != 1) ((rd_T26 l0 x3_1).f0) ((rd_T26 l0 x3_1).f1) ((rd_T26 l0 x3_1).f2.f0) ((rd_T26 l0 x3_1).f2.f1) ((rd_T26 l0 x3_1).f2.f2) ((rd_T26 l0 x3_1).f2.f3) ((rd_T26 l0 x3_1).f2.f4) ((rd_T26 l0 x3_1).f2.f5) ((rd_T26 l0 x3_1).f2.f6) ((rd_T26 l0 x3_1).f2.f7)) = some r := H
                     have A78 := Aside0.mk A780; clear A780
                     have H' := Aside0.mk H
                     clear H
                     go_wp2_with (first | ((with_reducible refine gate_callee (f := 17) rfl ?_); refine goesL_ (some 93) rfl rfl Try.func17 (by kernel_rfl) rfl #[.int .i64 t169] rfl (by (try simp only [List.map_toArray, List.map_cons, List.map_nil]); first | done | rfl | (simp only [List.length_drop, List.length_take]; rfl)) ?_; (with_reducible refine (arraslaw3_num.calls t169 t175 _ A74.out).mono ?_); rintro e w' ⟨rfl, ⟨nd, rfl⟩⟩; refine ⟨_, rfl, ?_⟩) | (go_at_call 17; (with_reducible refine (arraslaw3_num.calls t172 t176 _ A78.out).mono ?_); rintro e w' ⟨rfl, ⟨nd, rfl⟩⟩))
                     go_meet
                     case rel => exact ⟨_, ((t176 != 1)), (by first | rfl | (simp; done) | (simp [*]; done)), H', ⟨by have := HK1.out; have := HJ1.out; have := HJ6.out; have := HJ16.out; have := HK5.out; first | omega | exact Nat.le_refl _⟩, ⟨by (with_reducible repeat (first | refine blk_drewN ?_ _ | refine blk_drew ?_ | refine blk_alloc ?_ _)); exact BK158.out⟩, ⟨by repeat (first | (with_reducible first | exact HB.out | apply below_alloc | apply pw_below_drewN | apply below_drew1 | refine below_set ?_ GE158.out) | exact HB.out)⟩⟩
                    ·rw [if_neg c77] at H
                     have c77b0 : (t168 == 0) = false := beq_eq_false_iff_ne.mpr c77
                     have c77b1 : (t168 != 0) = true := bne_iff_ne.mpr c77
                     have H' := Aside0.mk H
                     clear H
                     go_wp2_with (first | ((with_reducible refine gate_callee (f := 17) rfl ?_); refine goesL_ (some 93) rfl rfl Try.func17 (by kernel_rfl) rfl #[.int .i64 t169] rfl (by (try simp only [List.map_toArray, List.map_cons, List.map_nil]); first | done | rfl | (simp only [List.length_drop, List.length_take]; rfl)) ?_; (with_reducible refine (arraslaw3_num.calls t169 t175 _ A74.out).mono ?_); rintro e w' ⟨rfl, ⟨nd, rfl⟩⟩; refine ⟨_, rfl, ?_⟩))
                     go_meet
                     case rel => exact ⟨_, (true), (by first | rfl | (simp; done) | (simp [*]; done)), H', ⟨by have := HK1.out; have := HJ1.out; have := HJ6.out; have := HJ16.out; have := HK5.out; first | omega | exact Nat.le_refl _⟩, ⟨by (with_reducible repeat (first | refine blk_drewN ?_ _ | refine blk_drew ?_ | refine blk_alloc ?_ _)); exact BK158.out⟩, ⟨by repeat (first | (with_reducible first | exact HB.out | apply below_alloc | apply pw_below_drewN | apply below_drew1 | refine below_set ?_ GE158.out) | exact HB.out)⟩⟩
                   ·rw [if_neg c76] at H
                    have c76b0 : (t167 == 0) = false := beq_eq_false_iff_ne.mpr c76
                    have c76b1 : (t167 != 0) = true := bne_iff_ne.mpr c76
                    have H' := Aside0.mk H
                    clear H
                    go_wp2_with (first | ((with_reducible refine gate_callee (f := 17) rfl ?_); refine goesL_ (some 93) rfl rfl Try.func17 (by kernel_rfl) rfl #[.int .i64 t169] rfl (by (try simp only [List.map_toArray, List.map_cons, List.map_nil]); first | done | rfl | (simp only [List.length_drop, List.length_take]; rfl)) ?_; (with_reducible refine (arraslaw3_num.calls t169 t175 _ A74.out).mono ?_); rintro e w' ⟨rfl, ⟨nd, rfl⟩⟩; refine ⟨_, rfl, ?_⟩))
                    go_meet
                    case rel => exact ⟨_, (true), (by first | rfl | (simp; done) | (simp [*]; done)), H', ⟨by have := HK1.out; have := HJ1.out; have := HJ6.out; have := HJ16.out; have := HK5.out; first | omega | exact Nat.le_refl _⟩, ⟨by (with_reducible repeat (first | refine blk_drewN ?_ _ | refine blk_drew ?_ | refine blk_alloc ?_ _)); exact BK158.out⟩, ⟨by repeat (first | (with_reducible first | exact HB.out | apply below_alloc | apply pw_below_drewN | apply below_drew1 | refine below_set ?_ GE158.out) | exact HB.out)⟩⟩
                  ·rw [if_neg c75] at H
                   have c75b0 : (t175 == 1) = false := beq_eq_false_iff_ne.mpr c75
                   have c75b1 : (t175 != 1) = true := bne_iff_ne.mpr c75
                   (first | rw [c75b0] | (simp only [i64_w, i32_w]; rw [c75b0]) | skip)
                   have H' := Aside0.mk H
                   clear H
                   go_wp2_with (first | ((with_reducible refine gate_callee (f := 17) rfl ?_); refine goesL_ (some 93) rfl rfl Try.func17 (by kernel_rfl) rfl #[.int .i64 t169] rfl (by (try simp only [List.map_toArray, List.map_cons, List.map_nil]); first | done | rfl | (simp only [List.length_drop, List.length_take]; rfl)) ?_; (with_reducible refine (arraslaw3_num.calls t169 t175 _ A74.out).mono ?_); rintro e w' ⟨rfl, ⟨nd, rfl⟩⟩; refine ⟨_, rfl, ?_⟩))
                   go_meet
                   case rel => exact ⟨_, (true), (by first | rfl | (simp; done) | (simp [*]; done)), H', ⟨by have := HK1.out; have := HJ1.out; have := HJ6.out; have := HJ16.out; have := HK5.out; first | omega | exact Nat.le_refl _⟩, ⟨by (with_reducible repeat (first | refine blk_drewN ?_ _ | refine blk_drew ?_ | refine blk_alloc ?_ _)); exact BK158.out⟩, ⟨by repeat (first | (with_reducible first | exact HB.out | apply below_alloc | apply pw_below_drewN | apply below_drew1 | refine below_set ?_ GE158.out) | exact HB.out)⟩⟩
                 case rest =>
                  clear HC65
                  try clear c1
                  try clear p1
                  try clear q1
                  try clear hx1
                  try clear c2
                  try clear p2
                  try clear c3
                  try clear c3b0
                  try clear c4
                  try clear c5
                  try clear c5b0
                  try clear c6
                  try clear c6b0
                  try clear p6
                  try clear c7
                  try clear c9
                  try clear c10
                  try clear c12
                  try clear c13
                  try clear c14
                  try clear c15
                  try clear p15
                  try clear q15
                  try clear hx15
                  try clear c16
                  try clear c17
                  try clear c19
                  try clear c22
                  try clear c26
                  try clear c27
                  try clear c27b0
                  try clear c34
                  try clear c45
                  try clear c45b0
                  try clear c45b1
                  try clear c48
                  try clear c48b0
                  try clear c48b1
                  try clear c51
                  try clear c51b0
                  try clear c51b1
                  try clear c64
                  try clear p64
                  try clear c75
                  try clear c75b0
                  try clear c75b1
                  try clear c76
                  try clear c76b0
                  try clear c76b1
                  try clear c77
                  try clear c77b0
                  try clear c77b1
                  try clear hcz14_0
                  try clear hcz14_1
                  try clear hcz14_2
                  try clear hcz14_3
                  try clear hcz14_4
                  try clear hcz14_5
                  try clear hcz14_6
                  try clear hcz14_7
                  try clear hcz14_8
                  try clear hcz14_9
                  try clear hcz15_0
                  try clear hcz15_1
                  try clear hcz15_2
                  try clear hcz15_3
                  try clear hcz15_4
                  try clear hcz15_5
                  try clear hcz15_6
                  try clear hcz15_7
                  try clear hcz15_8
                  try clear hcz15_9
                  try clear hcz18_0
                  try clear hcz18_1
                  try clear hcz18_2
                  try clear hcz18_3
                  try clear hcz18_4
                  try clear hcz18_5
                  try clear hcz18_6
                  try clear hcz18_7
                  try clear hcz18_8
                  try clear hcz18_9
                  try clear hcz23_0
                  try clear hcz23_1
                  try clear hcz23_2
                  try clear hcz23_3
                  try clear hcz23_4
                  try clear hcz23_5
                  try clear hcz23_6
                  try clear hcz23_7
                  try clear hcz23_8
                  try clear hcz23_9
                  try clear hcz24_0
                  try clear hcz24_1
                  try clear hcz24_2
                  try clear hcz24_3
                  try clear hcz24_4
                  try clear hcz24_5
                  try clear hcz24_6
                  try clear hcz24_7
                  try clear hcz24_8
                  try clear hcz24_9
                  try clear hcz36_0
                  try clear hcz36_1
                  try clear hcz36_2
                  try clear hcz36_3
                  try clear hcz36_4
                  try clear hcz36_5
                  try clear hcz36_6
                  try clear hcz36_7
                  try clear hcz36_8
                  try clear hcz36_9
                  try clear hcz39_0
                  try clear hcz39_1
                  try clear hcz39_2
                  try clear hcz39_3
                  try clear hcz39_4
                  try clear hcz39_5
                  try clear hcz39_6
                  try clear hcz39_7
                  try clear hcz39_8
                  try clear hcz39_9
                  try clear hcz42_0
                  try clear hcz42_1
                  try clear hcz42_2
                  try clear hcz42_3
                  try clear hcz42_4
                  try clear hcz42_5
                  try clear hcz42_6
                  try clear hcz42_7
                  try clear hcz42_8
                  try clear hcz42_9
                  try clear hcz54_0
                  try clear hcz54_1
                  try clear hcz54_2
                  try clear hcz54_3
                  try clear hcz54_4
                  try clear hcz54_5
                  try clear hcz54_6
                  try clear hcz54_7
                  try clear hcz54_8
                  try clear hcz54_9
                  try clear hcz56_0
                  try clear hcz56_1
                  try clear hcz56_2
                  try clear hcz56_3
                  try clear hcz56_4
                  try clear hcz56_5
                  try clear hcz56_6
                  try clear hcz56_7
                  try clear hcz56_8
                  try clear hcz56_9
                  try clear hcz58_0
                  try clear hcz58_1
                  try clear hcz58_2
                  try clear hcz58_3
                  try clear hcz58_4
                  try clear hcz58_5
                  try clear hcz58_6
                  try clear hcz58_7
                  try clear hcz58_8
                  try clear hcz58_9
                  try clear hcz60_0
                  try clear hcz60_1
                  try clear hcz60_2
                  try clear hcz60_3
                  try clear hcz60_4
                  try clear hcz60_5
                  try clear hcz60_6
                  try clear hcz60_7
                  try clear hcz60_8
                  try clear hcz60_9
                  try clear hcz62_0
                  try clear hcz62_1
                  try clear hcz62_2
                  try clear hcz62_3
                  try clear hcz62_4
                  try clear hcz62_5
                  try clear hcz62_6
                  try clear hcz62_7
                  try clear hcz62_8
                  try clear hcz62_9
                  try clear hcz66_0
                  try clear hcz66_1
                  try clear hcz66_2
                  try clear hcz66_3
                  try clear hcz66_4
                  try clear hcz66_5
                  try clear hcz66_6
                  try clear hcz66_7
                  try clear hcz66_8
                  try clear hcz66_9
                  try clear hcz69_0
                  try clear hcz69_1
                  try clear hcz69_2
                  try clear hcz69_3
                  try clear hcz69_4
                  try clear hcz69_5
                  try clear hcz69_6
                  try clear hcz69_7
                  try clear hcz69_8
                  try clear hcz69_9
                  try clear hcz72_0
                  try clear hcz72_1
                  try clear hcz72_2
                  try clear hcz72_3
                  try clear hcz72_4
                  try clear hcz72_5
                  try clear hcz72_6
                  try clear hcz72_7
                  try clear hcz72_8
                  try clear hcz72_9
                  try clear hcz9_0
                  try clear hcz9_1
                  try clear hcz9_2
                  try clear hcz9_3
                  try clear hcz9_4
                  try clear hcz9_5
                  try clear hcz9_6
                  try clear hcz9_7
                  try clear hcz9_8
                  try clear hcz9_9
                  try clear hfz14_0
                  try clear hfz14_1
                  try clear hfz14_2
                  try clear hfz14_3
                  try clear hfz14_4
                  try clear hfz14_5
                  try clear hfz14_6
                  try clear hfz14_7
                  try clear hfz14_8
                  try clear hfz14_9
                  try clear hfz15_0
                  try clear hfz15_1
                  try clear hfz15_2
                  try clear hfz15_3
                  try clear hfz15_4
                  try clear hfz15_5
                  try clear hfz15_6
                  try clear hfz15_7
                  try clear hfz15_8
                  try clear hfz15_9
                  try clear hfz18_0
                  try clear hfz18_1
                  try clear hfz18_2
                  try clear hfz18_3
                  try clear hfz18_4
                  try clear hfz18_5
                  try clear hfz18_6
                  try clear hfz18_7
                  try clear hfz18_8
                  try clear hfz18_9
                  try clear hfz23_0
                  try clear hfz23_1
                  try clear hfz23_2
                  try clear hfz23_3
                  try clear hfz23_4
                  try clear hfz23_5
                  try clear hfz23_6
                  try clear hfz23_7
                  try clear hfz23_8
                  try clear hfz23_9
                  try clear hfz24_0
                  try clear hfz24_1
                  try clear hfz24_2
                  try clear hfz24_3
                  try clear hfz24_4
                  try clear hfz24_5
                  try clear hfz24_6
                  try clear hfz24_7
                  try clear hfz24_8
                  try clear hfz24_9
                  try clear hfz36_0
                  try clear hfz36_1
                  try clear hfz36_2
                  try clear hfz36_3
                  try clear hfz36_4
                  try clear hfz36_5
                  try clear hfz36_6
                  try clear hfz36_7
                  try clear hfz36_8
                  try clear hfz36_9
                  try clear hfz39_0
                  try clear hfz39_1
                  try clear hfz39_2
                  try clear hfz39_3
                  try clear hfz39_4
                  try clear hfz39_5
                  try clear hfz39_6
                  try clear hfz39_7
                  try clear hfz39_8
                  try clear hfz39_9
                  try clear hfz42_0
                  try clear hfz42_1
                  try clear hfz42_2
                  try clear hfz42_3
                  try clear hfz42_4
                  try clear hfz42_5
                  try clear hfz42_6
                  try clear hfz42_7
                  try clear hfz42_8
                  try clear hfz42_9
                  try clear hfz54_0
                  try clear hfz54_1
                  try clear hfz54_2
                  try clear hfz54_3
                  try clear hfz54_4
                  try clear hfz54_5
                  try clear hfz54_6
                  try clear hfz54_7
                  try clear hfz54_8
                  try clear hfz54_9
                  try clear hfz56_0
                  try clear hfz56_1
                  try clear hfz56_2
                  try clear hfz56_3
                  try clear hfz56_4
                  try clear hfz56_5
                  try clear hfz56_6
                  try clear hfz56_7
                  try clear hfz56_8
                  try clear hfz56_9
                  try clear hfz58_0
                  try clear hfz58_1
                  try clear hfz58_2
                  try clear hfz58_3
                  try clear hfz58_4
                  try clear hfz58_5
                  try clear hfz58_6
                  try clear hfz58_7
                  try clear hfz58_8
                  try clear hfz58_9
                  try clear hfz60_0
                  try clear hfz60_1
                  try clear hfz60_2
                  try clear hfz60_3
                  try clear hfz60_4
                  try clear hfz60_5
                  try clear hfz60_6
                  try clear hfz60_7
                  try clear hfz60_8
                  try clear hfz60_9
                  try clear hfz62_0
                  try clear hfz62_1
                  try clear hfz62_2
                  try clear hfz62_3
                  try clear hfz62_4
                  try clear hfz62_5
                  try clear hfz62_6
                  try clear hfz62_7
                  try clear hfz62_8
                  try clear hfz62_9
                  try clear hfz66_0
                  try clear hfz66_1
                  try clear hfz66_2
                  try clear hfz66_3
                  try clear hfz66_4
                  try clear hfz66_5
                  try clear hfz66_6
                  try clear hfz66_7
                  try clear hfz66_8
                  try clear hfz66_9
                  try clear hfz69_0
                  try clear hfz69_1
                  try clear hfz69_2
                  try clear hfz69_3
                  try clear hfz69_4
                  try clear hfz69_5
                  try clear hfz69_6
                  try clear hfz69_7
                  try clear hfz69_8
                  try clear hfz69_9
                  try clear hfz72_0
                  try clear hfz72_1
                  try clear hfz72_2
                  try clear hfz72_3
                  try clear hfz72_4
                  try clear hfz72_5
                  try clear hfz72_6
                  try clear hfz72_7
                  try clear hfz72_8
                  try clear hfz72_9
                  try clear hfz9_0
                  try clear hfz9_1
                  try clear hfz9_2
                  try clear hfz9_3
                  try clear hfz9_4
                  try clear hfz9_5
                  try clear hfz9_6
                  try clear hfz9_7
                  try clear hfz9_8
                  try clear hfz9_9
                  try clear hx157_0
                  try clear hx157_1
                  try clear hx157_2
                  try clear hx157_3
                  try clear hx157_4
                  try clear hx157_5
                  try clear hx157_6
                  try clear hx157_7
                  try clear hx157_8
                  try clear hx157_9
                  try clear p1
                  try clear p15
                  try clear p157
                  try clear p2
                  try clear q1
                  try clear q15
                  try clear q157
                  obtain ⟨kq, x107_64, rfl, HA, HJ64, BK158, HB⟩ := hcut
                  cases kq with
                  | zero => exact absurd HA.out (by simp [arraslaw3_PointNumbers.j5])
                  | succ kj64 =>
                   have H := HA.out
                   clear HA
                   simp only [arraslaw3_PointNumbers.j5] at H
                   by_cases c79 : x107_64 = true
                   ·subst c79
                    have H1 : (some false) = some r := by rw [if_pos rfl] at H; exact H
                    clear H; have H := H1; clear H1
                    obtain rfl := Option.some.inj H
                    go_wp2
                    go_ret
                    exact ⟨by first | rfl | (simp [errW_none, errW_some] <;> rfl) | (simp [*, errW_none, errW_some] <;> rfl), by repeat (first | (with_reducible first | exact HB.out | apply below_alloc | apply pw_below_drewN | apply below_drew1 | refine below_set ?_ GE158.out) | exact HB.out)⟩
                   ·replace c79 := Bool.eq_false_iff.mpr c79
                    subst c79
                    have H1 : (arraslaw3_PointNumbers.l1 kj64 l0 x3_1 (wrap64 (x8_5 + 1)) ((rd_T26 l0 x3_1).f0) ((rd_T26 l0 x3_1).f1) ((rd_T26 l0 x3_1).f2.f0) ((rd_T26 l0 x3_1).f2.f1) ((rd_T26 l0 x3_1).f2.f2) ((rd_T26 l0 x3_1).f2.f3) ((rd_T26 l0 x3_1).f2.f4) ((rd_T26 l0 x3_1).f2.f5) ((rd_T26 l0 x3_1).f2.f6) ((rd_T26 l0 x3_1).f2.f7)) = some r := by rw [if_neg (show ¬ (false = true) by decide)] at H; exact H
                    clear H; have H := H1; clear H1
                    have H' := Aside0.mk H
                    clear H
                    go_wp2
                    go_roundg kj64
                    case measure => have := HK1.out; have := HJ1.out; have := HJ6.out; have := HJ16.out; have := HK5.out; have := HJ64.out; omega
                    case rel => exact ⟨(wrap64 (x8_5 + 1)), (by first | rfl | (simp; done) | (simp [*]; done)), H', ⟨by have := HK1.out; have := HJ1.out; have := HJ6.out; have := HJ16.out; have := HK5.out; have := HJ64.out; omega⟩, ⟨by (with_reducible repeat (first | refine blk_drewN ?_ _ | refine blk_drew ?_ | refine blk_alloc ?_ _)); exact BK158.out⟩, ⟨by repeat (first | (with_reducible first | exact HB.out | apply below_alloc | apply pw_below_drewN | apply below_drew1 | refine below_set ?_ GE158.out) | exact HB.out)⟩⟩
               ·rw [if_neg c27] at H
                have c27b0 : decide (x8_5 < 4) = false := decide_eq_false c27
                clear c27
                have H' := Aside0.mk H
                clear H
                go_wp2
                go_roundg k5
                case measure => have := HK1.out; have := HJ1.out; have := HJ6.out; have := HJ16.out; have := HK5.out; omega
                case rel => exact ⟨(wrap64 (x3_1 + 1)), (by first | rfl | (simp; done) | (simp [*]; done)), H', ⟨by have := HK1.out; have := HJ1.out; have := HJ6.out; have := HJ16.out; have := HK5.out; omega⟩, ⟨by repeat (first | (with_reducible first | exact HB.out | apply below_alloc | apply pw_below_drewN | apply below_drew1 | refine below_set ?_ GE158.out) | exact HB.out)⟩⟩
       ·rw [if_neg c6] at H
        exact absurd H (by simp)
      ·rw [if_neg c5] at H
       exact absurd H (by simp)
     ·replace c4 := Bool.eq_false_iff.mpr c4
      subst c4
      have H1 : ((arraslaw3_wakes.f kj1).bind fun t156 => (some t156)) = some r := by rw [if_neg (show ¬ (false = true) by decide)] at H; exact H
      clear H; have H := H1; clear H1
      replace H := Option.bind_eq_some_iff.mp H
      obtain ⟨t156, A800, H⟩ := H
      replace H : (some t156) = some r := H
      have A80 := Aside0.mk A800; clear A800
      obtain rfl := Option.some.inj H
      go_wp2_with (first | ((with_reducible refine gate_callee (f := 20) rfl ?_); refine goesL_ (some 136) rfl rfl Try.func20 (by kernel_rfl) rfl #[] rfl (by (try simp only [List.map_toArray, List.map_cons, List.map_nil]); first | done | rfl | (simp only [List.length_drop, List.length_take]; rfl)) ?_; (with_reducible refine (arraslaw3_wakes.calls kj1  t156 _ A80.out).mono ?_); rintro e w81 ⟨rfl, hb⟩; refine ⟨_, rfl, ?_⟩; have n0_ := Aside0.mk (below_step (by repeat (first | (with_reducible first | exact HB.out | apply below_alloc | apply pw_below_drewN | apply below_drew1) | exact HB.out)) hb); clear HB; have HB := n0_; clear n0_; (try clear hb); (try clear hb2); (try clear hk); (try clear hi)))
      go_ret
      exact ⟨by first | rfl | (simp [errW_none, errW_some] <;> rfl) | (simp [*, errW_none, errW_some] <;> rfl), by repeat (first | (with_reducible first | exact HB.out | apply below_alloc | apply pw_below_drewN | apply below_drew1) | exact HB.out)⟩

end Go.Proofs.Ytdpeeinmckohgaa.PD
