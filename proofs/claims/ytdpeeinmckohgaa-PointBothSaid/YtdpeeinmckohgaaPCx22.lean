-- Written by wprint.py, a program of this session's, over the kit's print.
import Derived.Test.YtdpeeinmckohgaaPCx0
import Derived.Test.YtdpeeinmckohgaaPCx1
import Derived.Test.YtdpeeinmckohgaaPCx5
import Derived.Test.YtdpeeinmckohgaaPCx9
import Derived.Test.YtdpeeinmckohgaaPCx14
import Derived.Test.YtdpeeinmckohgaaPCx18
import Derived.Test.YtdpeeinmckohgaaPCx19
namespace Go.Proofs.Ytdpeeinmckohgaa.PC
open Go.RowKit Go.Proofs.YtdpeeinmckohgaaW.PrintWords Go.Proofs.YtdpeeinmckohgaaW.PrintLast Go.Proofs.YtdpeeinmckohgaaW.PrintMore
attribute [local go_sem] max2_int min2_int max_two min_two max_three min_three max_four min_four fl_eql fl_neq fl_lss fl_leq fl_gtr fl_geq fl_add fl_of fl_int cx_mk cx_real cx_imag cx_eql cx_neq cx_add st_f64 st_c128   -- for this text's walks alone
set_option linter.unusedVariables false
set_option linter.unusedSimpArgs false

/-! ### arraslaw3_PointBoth: function 8 -/
mutual
def arraslaw3_PointBoth.l0 : Nat → List (S26) → Int → Option (Bool)
  | 0, _, _ => none
  | k + 1, x0, x3 => if x3 < (x0.length : Int) then (arraslaw3_PointBoth.j1 k x0 x3 (decide (x3 < 12))) else (arraslaw3_PointBoth.j1 k x0 x3 false)
def arraslaw3_PointBoth.j1 : Nat → List (S26) → Int → Bool → Option (Bool)
  | 0, _, _, _ => none
  | k + 1, x0, x3, x33 => if x33 = true then (arraslaw3_PointBoth.l1 k x0 x3 0 ((0, 0) : C128) ((0, 0) : C128) ((0, 0) : C128) ((0, 0) : C128)) else ((arraslaw3_wakes.f k).bind fun t490 => (some t490))
def arraslaw3_PointBoth.l1 : Nat → List (S26) → Int → Int → C128 → C128 → C128 → C128 → Option (Bool)
  | 0, _, _, _, _, _, _, _ => none
  | k + 1, x0, x3, x5, x492000, x492001, x492002, x492003 => if x5 < 4 then (if 0 ≤ x3 then (if x3 < (x0.length : Int) then (if 0 ≤ (wrap64 (5 * x5)) then ((arraslaw0_Within.f (shr .i64 ((rd_T26 x0 x3).f0) (wrap64 (5 * x5))) 20).bind fun t493 => ((arraslaw0_Within.f (shr .i64 ((rd_T26 x0 x3).f1) (wrap64 (5 * x5))) 20).bind fun t495 => ((point_Of.f t493 t495).bind fun bt496 => ((arraslaw3_num.f bt496.2).bind fun t498 => (if t498 = 0 then (if x5 = 0 then (arraslaw3_PointBoth.l1 k x0 x3 (wrap64 (x5 + 1)) bt496.1 x492001 x492002 x492003) else (if x5 = 1 then (arraslaw3_PointBoth.l1 k x0 x3 (wrap64 (x5 + 1)) x492000 bt496.1 x492002 x492003) else (if x5 = 2 then (arraslaw3_PointBoth.l1 k x0 x3 (wrap64 (x5 + 1)) x492000 x492001 bt496.1 x492003) else (if x5 = 3 then (arraslaw3_PointBoth.l1 k x0 x3 (wrap64 (x5 + 1)) x492000 x492001 x492002 bt496.1) else (none))))) else (some false)))))) else (none)) else (none)) else (none)) else ((point_Join.f k x492000 x492001 x492002 x492003).bind fun bt499 => ((point_Meet.f k x492000 x492001 x492002 x492003).bind fun bt502 => ((arraslaw3_num.f bt499.2.2).bind fun t505 => (if t505 = 0 then ((arraslaw3_num.f bt502.2.2).bind fun t506 => (arraslaw3_PointBoth.j3 k x0 x3 bt499.1 bt499.2.1 bt502.1 bt502.2.1 (t506 != 0) x492000 x492001 x492002 x492003)) else (arraslaw3_PointBoth.j3 k x0 x3 bt499.1 bt499.2.1 bt502.1 bt502.2.1 true x492000 x492001 x492002 x492003)))))
def arraslaw3_PointBoth.j3 : Nat → List (S26) → Int → C128 → C128 → C128 → C128 → Bool → C128 → C128 → C128 → C128 → Option (Bool)
  | 0, _, _, _, _, _, _, _, _, _, _, _ => none
  | k + 1, x0, x3, x10, x11, x13, x14, x103, x492000, x492001, x492002, x492003 => if x103 = true then (some false) else (arraslaw3_PointBoth.l2 k x0 x3 x10 x11 x13 x14 0 x492000 x492001 x492002 x492003)
def arraslaw3_PointBoth.l2 : Nat → List (S26) → Int → C128 → C128 → C128 → C128 → Int → C128 → C128 → C128 → C128 → Option (Bool)
  | 0, _, _, _, _, _, _, _, _, _, _, _ => none
  | k + 1, x0, x3, x10, x11, x13, x14, x16, x492000, x492001, x492002, x492003 => if x16 < 100 then ((point_Has.f k x492000 x492001 ((fOf (wrap64 ((Int.tmod x16 10) * 4)), fOf (wrap64 ((wrap64 (Int.tdiv x16 10)) * 4))) : C128)).bind fun bt507 => ((point_Has.f k x492002 x492003 ((fOf (wrap64 ((Int.tmod x16 10) * 4)), fOf (wrap64 ((wrap64 (Int.tdiv x16 10)) * 4))) : C128)).bind fun bt509 => ((point_Has.f k x10 x11 ((fOf (wrap64 ((Int.tmod x16 10) * 4)), fOf (wrap64 ((wrap64 (Int.tdiv x16 10)) * 4))) : C128)).bind fun bt511 => ((point_Has.f k x13 x14 ((fOf (wrap64 ((Int.tmod x16 10) * 4)), fOf (wrap64 ((wrap64 (Int.tdiv x16 10)) * 4))) : C128)).bind fun bt513 => ((arraslaw3_num.f bt507.2).bind fun t515 => (if t515 = 0 then ((arraslaw3_num.f bt509.2).bind fun t516 => (if t516 = 0 then ((arraslaw3_num.f bt511.2).bind fun t517 => (if t517 = 0 then ((arraslaw3_num.f bt513.2).bind fun t518 => (if t518 = 0 then (if bt507.1 = true then (if (bt513.1 != bt509.1) = true then (arraslaw3_PointBoth.j5 k x0 x3 x10 x11 x13 x14 x16 true x492000 x492001 x492002 x492003) else (arraslaw3_PointBoth.j5 k x0 x3 x10 x11 x13 x14 x16 (!bt511.1) x492000 x492001 x492002 x492003)) else (if (bt513.1 != false) = true then (arraslaw3_PointBoth.j5 k x0 x3 x10 x11 x13 x14 x16 true x492000 x492001 x492002 x492003) else (if bt509.1 = true then (arraslaw3_PointBoth.j5 k x0 x3 x10 x11 x13 x14 x16 (!bt511.1) x492000 x492001 x492002 x492003) else (arraslaw3_PointBoth.j5 k x0 x3 x10 x11 x13 x14 x16 false x492000 x492001 x492002 x492003)))) else (arraslaw3_PointBoth.j5 k x0 x3 x10 x11 x13 x14 x16 true x492000 x492001 x492002 x492003))) else (arraslaw3_PointBoth.j5 k x0 x3 x10 x11 x13 x14 x16 true x492000 x492001 x492002 x492003))) else (arraslaw3_PointBoth.j5 k x0 x3 x10 x11 x13 x14 x16 true x492000 x492001 x492002 x492003))) else (arraslaw3_PointBoth.j5 k x0 x3 x10 x11 x13 x14 x16 true x492000 x492001 x492002 x492003))))))) else (arraslaw3_PointBoth.l0 k x0 (wrap64 (x3 + 1)))
def arraslaw3_PointBoth.j5 : Nat → List (S26) → Int → C128 → C128 → C128 → C128 → Int → Bool → C128 → C128 → C128 → C128 → Option (Bool)
  | 0, _, _, _, _, _, _, _, _, _, _, _, _ => none
  | k + 1, x0, x3, x10, x11, x13, x14, x16, x184, x492000, x492001, x492002, x492003 => if x184 = true then (some false) else (arraslaw3_PointBoth.l2 k x0 x3 x10 x11 x13 x14 (wrap64 (x16 + 1)) x492000 x492001 x492002 x492003)
end
def arraslaw3_PointBoth.f (k : Nat) (l0 : List (S26)) : Option (Bool) := arraslaw3_PointBoth.l0 k l0 0
theorem arraslaw3_PointBoth.mono_l : ∀ k, (∀ y0 y1, LeO (arraslaw3_PointBoth.l0 k y0 y1) (arraslaw3_PointBoth.l0 (k + 1) y0 y1)) ∧ (∀ y0 y1 y2, LeO (arraslaw3_PointBoth.j1 k y0 y1 y2) (arraslaw3_PointBoth.j1 (k + 1) y0 y1 y2)) ∧ (∀ y0 y1 y2 y3 y4 y5 y6, LeO (arraslaw3_PointBoth.l1 k y0 y1 y2 y3 y4 y5 y6) (arraslaw3_PointBoth.l1 (k + 1) y0 y1 y2 y3 y4 y5 y6)) ∧ (∀ y0 y1 y2 y3 y4 y5 y6 y7 y8 y9 y10, LeO (arraslaw3_PointBoth.j3 k y0 y1 y2 y3 y4 y5 y6 y7 y8 y9 y10) (arraslaw3_PointBoth.j3 (k + 1) y0 y1 y2 y3 y4 y5 y6 y7 y8 y9 y10)) ∧ (∀ y0 y1 y2 y3 y4 y5 y6 y7 y8 y9 y10, LeO (arraslaw3_PointBoth.l2 k y0 y1 y2 y3 y4 y5 y6 y7 y8 y9 y10) (arraslaw3_PointBoth.l2 (k + 1) y0 y1 y2 y3 y4 y5 y6 y7 y8 y9 y10)) ∧ (∀ y0 y1 y2 y3 y4 y5 y6 y7 y8 y9 y10 y11, LeO (arraslaw3_PointBoth.j5 k y0 y1 y2 y3 y4 y5 y6 y7 y8 y9 y10 y11) (arraslaw3_PointBoth.j5 (k + 1) y0 y1 y2 y3 y4 y5 y6 y7 y8 y9 y10 y11))
  | 0 => ⟨fun _ _ r h => by simp [arraslaw3_PointBoth.l0] at h, fun _ _ _ r h => by simp [arraslaw3_PointBoth.j1] at h, fun _ _ _ _ _ _ _ r h => by simp [arraslaw3_PointBoth.l1] at h, fun _ _ _ _ _ _ _ _ _ _ _ r h => by simp [arraslaw3_PointBoth.j3] at h, fun _ _ _ _ _ _ _ _ _ _ _ r h => by simp [arraslaw3_PointBoth.l2] at h, fun _ _ _ _ _ _ _ _ _ _ _ _ r h => by simp [arraslaw3_PointBoth.j5] at h⟩
  | k + 1 => by
    obtain ⟨ih0, ih1, ih2, ih3, ih4, ih5⟩ := arraslaw3_PointBoth.mono_l k
    refine ⟨?_, ?_, ?_, ?_, ?_, ?_⟩
    · intro y0 y1
      unfold arraslaw3_PointBoth.l0
      repeat' first
      | (with_reducible exact ih0 _ _)
      | (with_reducible exact ih1 _ _ _)
      | (with_reducible exact ih2 _ _ _ _ _ _ _)
      | (with_reducible exact ih3 _ _ _ _ _ _ _ _ _ _ _)
      | (with_reducible exact ih4 _ _ _ _ _ _ _ _ _ _ _)
      | (with_reducible exact ih5 _ _ _ _ _ _ _ _ _ _ _ _)
      | (with_reducible exact arraslaw3_wakes.mono _)
      | (with_reducible exact point_Has.mono _ _ _ _)
      | (with_reducible exact point_Join.mono _ _ _ _ _)
      | (with_reducible exact point_Meet.mono _ _ _ _ _)
      | (with_reducible exact LeO.refl _)
      | (with_reducible exact LeO.none _)
      | (with_reducible refine LeO.ite ?_ ?_)
      | (with_reducible refine LeO.bind ?_ (fun _ => ?_))
      | exact ih0 _ _
      | exact ih1 _ _ _
      | exact ih2 _ _ _ _ _ _ _
      | exact ih3 _ _ _ _ _ _ _ _ _ _ _
      | exact ih4 _ _ _ _ _ _ _ _ _ _ _
      | exact ih5 _ _ _ _ _ _ _ _ _ _ _ _
      | exact arraslaw3_wakes.mono _
      | exact point_Has.mono _ _ _ _
      | exact point_Join.mono _ _ _ _ _
      | exact point_Meet.mono _ _ _ _ _
      | exact LeO.none _
      | refine LeO.ite ?_ ?_
      | refine LeO.bind ?_ (fun _ => ?_)
    · intro y0 y1 y2
      unfold arraslaw3_PointBoth.j1
      repeat' first
      | (with_reducible exact ih0 _ _)
      | (with_reducible exact ih1 _ _ _)
      | (with_reducible exact ih2 _ _ _ _ _ _ _)
      | (with_reducible exact ih3 _ _ _ _ _ _ _ _ _ _ _)
      | (with_reducible exact ih4 _ _ _ _ _ _ _ _ _ _ _)
      | (with_reducible exact ih5 _ _ _ _ _ _ _ _ _ _ _ _)
      | (with_reducible exact arraslaw3_wakes.mono _)
      | (with_reducible exact point_Has.mono _ _ _ _)
      | (with_reducible exact point_Join.mono _ _ _ _ _)
      | (with_reducible exact point_Meet.mono _ _ _ _ _)
      | (with_reducible exact LeO.refl _)
      | (with_reducible exact LeO.none _)
      | (with_reducible refine LeO.ite ?_ ?_)
      | (with_reducible refine LeO.bind ?_ (fun _ => ?_))
      | exact ih0 _ _
      | exact ih1 _ _ _
      | exact ih2 _ _ _ _ _ _ _
      | exact ih3 _ _ _ _ _ _ _ _ _ _ _
      | exact ih4 _ _ _ _ _ _ _ _ _ _ _
      | exact ih5 _ _ _ _ _ _ _ _ _ _ _ _
      | exact arraslaw3_wakes.mono _
      | exact point_Has.mono _ _ _ _
      | exact point_Join.mono _ _ _ _ _
      | exact point_Meet.mono _ _ _ _ _
      | exact LeO.none _
      | refine LeO.ite ?_ ?_
      | refine LeO.bind ?_ (fun _ => ?_)
    · intro y0 y1 y2 y3 y4 y5 y6
      unfold arraslaw3_PointBoth.l1
      repeat' first
      | (with_reducible exact ih0 _ _)
      | (with_reducible exact ih1 _ _ _)
      | (with_reducible exact ih2 _ _ _ _ _ _ _)
      | (with_reducible exact ih3 _ _ _ _ _ _ _ _ _ _ _)
      | (with_reducible exact ih4 _ _ _ _ _ _ _ _ _ _ _)
      | (with_reducible exact ih5 _ _ _ _ _ _ _ _ _ _ _ _)
      | (with_reducible exact arraslaw3_wakes.mono _)
      | (with_reducible exact point_Has.mono _ _ _ _)
      | (with_reducible exact point_Join.mono _ _ _ _ _)
      | (with_reducible exact point_Meet.mono _ _ _ _ _)
      | (with_reducible exact LeO.refl _)
      | (with_reducible exact LeO.none _)
      | (with_reducible refine LeO.ite ?_ ?_)
      | (with_reducible refine LeO.bind ?_ (fun _ => ?_))
      | exact ih0 _ _
      | exact ih1 _ _ _
      | exact ih2 _ _ _ _ _ _ _
      | exact ih3 _ _ _ _ _ _ _ _ _ _ _
      | exact ih4 _ _ _ _ _ _ _ _ _ _ _
      | exact ih5 _ _ _ _ _ _ _ _ _ _ _ _
      | exact arraslaw3_wakes.mono _
      | exact point_Has.mono _ _ _ _
      | exact point_Join.mono _ _ _ _ _
      | exact point_Meet.mono _ _ _ _ _
      | exact LeO.none _
      | refine LeO.ite ?_ ?_
      | refine LeO.bind ?_ (fun _ => ?_)
    · intro y0 y1 y2 y3 y4 y5 y6 y7 y8 y9 y10
      unfold arraslaw3_PointBoth.j3
      repeat' first
      | (with_reducible exact ih0 _ _)
      | (with_reducible exact ih1 _ _ _)
      | (with_reducible exact ih2 _ _ _ _ _ _ _)
      | (with_reducible exact ih3 _ _ _ _ _ _ _ _ _ _ _)
      | (with_reducible exact ih4 _ _ _ _ _ _ _ _ _ _ _)
      | (with_reducible exact ih5 _ _ _ _ _ _ _ _ _ _ _ _)
      | (with_reducible exact arraslaw3_wakes.mono _)
      | (with_reducible exact point_Has.mono _ _ _ _)
      | (with_reducible exact point_Join.mono _ _ _ _ _)
      | (with_reducible exact point_Meet.mono _ _ _ _ _)
      | (with_reducible exact LeO.refl _)
      | (with_reducible exact LeO.none _)
      | (with_reducible refine LeO.ite ?_ ?_)
      | (with_reducible refine LeO.bind ?_ (fun _ => ?_))
      | exact ih0 _ _
      | exact ih1 _ _ _
      | exact ih2 _ _ _ _ _ _ _
      | exact ih3 _ _ _ _ _ _ _ _ _ _ _
      | exact ih4 _ _ _ _ _ _ _ _ _ _ _
      | exact ih5 _ _ _ _ _ _ _ _ _ _ _ _
      | exact arraslaw3_wakes.mono _
      | exact point_Has.mono _ _ _ _
      | exact point_Join.mono _ _ _ _ _
      | exact point_Meet.mono _ _ _ _ _
      | exact LeO.none _
      | refine LeO.ite ?_ ?_
      | refine LeO.bind ?_ (fun _ => ?_)
    · intro y0 y1 y2 y3 y4 y5 y6 y7 y8 y9 y10
      unfold arraslaw3_PointBoth.l2
      repeat' first
      | (with_reducible exact ih0 _ _)
      | (with_reducible exact ih1 _ _ _)
      | (with_reducible exact ih2 _ _ _ _ _ _ _)
      | (with_reducible exact ih3 _ _ _ _ _ _ _ _ _ _ _)
      | (with_reducible exact ih4 _ _ _ _ _ _ _ _ _ _ _)
      | (with_reducible exact ih5 _ _ _ _ _ _ _ _ _ _ _ _)
      | (with_reducible exact arraslaw3_wakes.mono _)
      | (with_reducible exact point_Has.mono _ _ _ _)
      | (with_reducible exact point_Join.mono _ _ _ _ _)
      | (with_reducible exact point_Meet.mono _ _ _ _ _)
      | (with_reducible exact LeO.refl _)
      | (with_reducible exact LeO.none _)
      | (with_reducible refine LeO.ite ?_ ?_)
      | (with_reducible refine LeO.bind ?_ (fun _ => ?_))
      | exact ih0 _ _
      | exact ih1 _ _ _
      | exact ih2 _ _ _ _ _ _ _
      | exact ih3 _ _ _ _ _ _ _ _ _ _ _
      | exact ih4 _ _ _ _ _ _ _ _ _ _ _
      | exact ih5 _ _ _ _ _ _ _ _ _ _ _ _
      | exact arraslaw3_wakes.mono _
      | exact point_Has.mono _ _ _ _
      | exact point_Join.mono _ _ _ _ _
      | exact point_Meet.mono _ _ _ _ _
      | exact LeO.none _
      | refine LeO.ite ?_ ?_
      | refine LeO.bind ?_ (fun _ => ?_)
    · intro y0 y1 y2 y3 y4 y5 y6 y7 y8 y9 y10 y11
      unfold arraslaw3_PointBoth.j5
      repeat' first
      | (with_reducible exact ih0 _ _)
      | (with_reducible exact ih1 _ _ _)
      | (with_reducible exact ih2 _ _ _ _ _ _ _)
      | (with_reducible exact ih3 _ _ _ _ _ _ _ _ _ _ _)
      | (with_reducible exact ih4 _ _ _ _ _ _ _ _ _ _ _)
      | (with_reducible exact ih5 _ _ _ _ _ _ _ _ _ _ _ _)
      | (with_reducible exact arraslaw3_wakes.mono _)
      | (with_reducible exact point_Has.mono _ _ _ _)
      | (with_reducible exact point_Join.mono _ _ _ _ _)
      | (with_reducible exact point_Meet.mono _ _ _ _ _)
      | (with_reducible exact LeO.refl _)
      | (with_reducible exact LeO.none _)
      | (with_reducible refine LeO.ite ?_ ?_)
      | (with_reducible refine LeO.bind ?_ (fun _ => ?_))
      | exact ih0 _ _
      | exact ih1 _ _ _
      | exact ih2 _ _ _ _ _ _ _
      | exact ih3 _ _ _ _ _ _ _ _ _ _ _
      | exact ih4 _ _ _ _ _ _ _ _ _ _ _
      | exact ih5 _ _ _ _ _ _ _ _ _ _ _ _
      | exact arraslaw3_wakes.mono _
      | exact point_Has.mono _ _ _ _
      | exact point_Join.mono _ _ _ _ _
      | exact point_Meet.mono _ _ _ _ _
      | exact LeO.none _
      | refine LeO.ite ?_ ?_
      | refine LeO.bind ?_ (fun _ => ?_)
theorem arraslaw3_PointBoth.mono : ∀ a0 k, LeO (arraslaw3_PointBoth.f k a0) (arraslaw3_PointBoth.f (k + 1) a0) := by
  intro a0 k
  obtain ⟨ih0, ih1, ih2, ih3, ih4, ih5⟩ := arraslaw3_PointBoth.mono_l k
  unfold arraslaw3_PointBoth.f
  repeat' first
      | (with_reducible exact ih0 _ _)
      | (with_reducible exact ih1 _ _ _)
      | (with_reducible exact ih2 _ _ _ _ _ _ _)
      | (with_reducible exact ih3 _ _ _ _ _ _ _ _ _ _ _)
      | (with_reducible exact ih4 _ _ _ _ _ _ _ _ _ _ _)
      | (with_reducible exact ih5 _ _ _ _ _ _ _ _ _ _ _ _)
      | (with_reducible exact arraslaw3_wakes.mono _)
      | (with_reducible exact point_Has.mono _ _ _ _)
      | (with_reducible exact point_Join.mono _ _ _ _ _)
      | (with_reducible exact point_Meet.mono _ _ _ _ _)
      | (with_reducible exact LeO.refl _)
      | (with_reducible exact LeO.none _)
      | (with_reducible refine LeO.ite ?_ ?_)
      | (with_reducible refine LeO.bind ?_ (fun _ => ?_))
      | exact ih0 _ _
      | exact ih1 _ _ _
      | exact ih2 _ _ _ _ _ _ _
      | exact ih3 _ _ _ _ _ _ _ _ _ _ _
      | exact ih4 _ _ _ _ _ _ _ _ _ _ _
      | exact ih5 _ _ _ _ _ _ _ _ _ _ _ _
      | exact arraslaw3_wakes.mono _
      | exact point_Has.mono _ _ _ _
      | exact point_Join.mono _ _ _ _ _
      | exact point_Meet.mono _ _ _ _ _
      | exact LeO.none _
      | refine LeO.ite ?_ ?_
      | refine LeO.bind ?_ (fun _ => ?_)
set_option maxHeartbeats 8000000 in
set_option maxRecDepth 100000 in
theorem arraslaw3_PointBoth.calls (k : Nat) (A0 : Option Addr) (c0 : Nat) (l0 : List (S26)) (r : Bool) (w : World) (hr0 : Kd.C k26 w A0 l0.length l0) (hc0 : l0.length ≤ c0) (h : arraslaw3_PointBoth.f k l0 = some r) :
  Calls Try.prog 8 #[.slice A0 l0.length c0] w fun e w' => e = .returned (.bool r) ∧ Below w.heap.size w w' := by
 have hu54 := Try.underlying54
 have HR0 := Aside0.mk hr0; have HC0 := Aside0.mk hc0; clear hr0 hc0; have HB := Aside0.mk (Below.refl w.heap.size w)
 have H : (arraslaw3_PointBoth.l0 k l0 0) = some r := h
 clear h
 have H' := Aside0.mk H
 clear H
 go_enter Try.func8, Try.ntmps8
 go_wp2
 repeat (go_quiet (fail); try go_wp2)
 go_loopg [3] k (fun kq v3 w' => ∃ (x3_1 : Int), v3 = .int .i64 x3_1 ∧ Aside0 (arraslaw3_PointBoth.l0 kq l0 x3_1 = some r) ∧ Aside0 (kq ≤ k) ∧ Aside0 (Below w.heap.size w w'))
 case atStart => exact ⟨(0), (by first | rfl | (simp; done) | (simp [*]; done)), H', ⟨Nat.le_refl _⟩, ⟨by repeat (first | (with_reducible first | exact HB.out | apply below_alloc | apply pw_below_drewN | apply below_drew1) | exact HB.out)⟩⟩
 case round => as_aux_lemma =>
  clear H'
  obtain ⟨x3_1, rfl, HA, HK1, HB⟩ := hrel
  cases gk with
  | zero => exact absurd HA.out (by simp [arraslaw3_PointBoth.l0])
  | succ k1 =>
   have H := HA.out
   clear HA
   simp only [arraslaw3_PointBoth.l0] at H
   have HC2 := Aside0.mk H; clear H
   go_upto_region 2 with (fail)
   repeat (go_quiet (fail); go_upto_region 2 with (fail))
   go_cut [33] (fun v33 wc => ∃ (kq : Nat) (x33_1 : Bool), v33 = .bool x33_1 ∧ Aside0 (arraslaw3_PointBoth.j1 kq l0 x3_1 x33_1 = some r) ∧ Aside0 (kq ≤ k1) ∧ Aside0 (Below w.heap.size w wc))
   case first => as_aux_lemma =>
    have H := HC2.out
    clear HC2
    by_cases c3 : x3_1 < (l0.length : Int)
    ·rw [if_pos c3] at H
     have c3b0 : decide (x3_1 < (l0.length : Int)) = true := decide_eq_true c3
     clear c3
     (first | rw [c3b0] | (simp only [i64_w, i32_w]; rw [c3b0]) | skip)
     have H' := Aside0.mk H
     clear H
     go_wp2
     repeat (go_quiet (fail); try go_wp2)
     go_meet
     case rel => exact ⟨_, (decide (x3_1 < 12)), (by first | rfl | (simp; done) | (simp [*]; done)), H', ⟨by have := HK1.out; first | omega | exact Nat.le_refl _⟩, ⟨by repeat (first | (with_reducible first | exact HB.out | apply below_alloc | apply pw_below_drewN | apply below_drew1) | exact HB.out)⟩⟩
    ·rw [if_neg c3] at H
     have c3b0 : decide (x3_1 < (l0.length : Int)) = false := decide_eq_false c3
     clear c3
     (first | rw [c3b0] | (simp only [i64_w, i32_w]; rw [c3b0]) | skip)
     have H' := Aside0.mk H
     clear H
     go_wp2
     repeat (go_quiet (fail); try go_wp2)
     go_meet
     case rel => exact ⟨_, (false), (by first | rfl | (simp; done) | (simp [*]; done)), H', ⟨by have := HK1.out; first | omega | exact Nat.le_refl _⟩, ⟨by repeat (first | (with_reducible first | exact HB.out | apply below_alloc | apply pw_below_drewN | apply below_drew1) | exact HB.out)⟩⟩
   case rest => as_aux_lemma =>
    clear HC2
    try clear p2
    try clear c3
    try clear c3b0
    obtain ⟨kq, x33_1, rfl, HA, HJ1, HB⟩ := hcut
    cases kq with
    | zero => exact absurd HA.out (by simp [arraslaw3_PointBoth.j1])
    | succ kj1 =>
     have H := HA.out
     clear HA
     simp only [arraslaw3_PointBoth.j1] at H
     by_cases c4 : x33_1 = true
     ·subst c4
      have H1 : (arraslaw3_PointBoth.l1 kj1 l0 x3_1 0 ((0, 0) : C128) ((0, 0) : C128) ((0, 0) : C128) ((0, 0) : C128)) = some r := by rw [if_pos rfl] at H; exact H
      clear H; have H := H1; clear H1
      have H' := Aside0.mk H
      clear H
      go_wp2_with (first | ((with_reducible refine gate_dst (N := 4) rfl ?_); refine box_event ?hg (N := 4) ?hd (cs := #[.complex .f64 0 0, .complex .f64 0 0, .complex .f64 0 0, .complex .f64 0 0]) (t := 54) ?hr ?_; (case hd => rfl); (case hg => rfl); (case hr => first | (go_simp; done) | (go_simp; rfl)); intro gb491 hg w5 hbox hb; have n0_ := Aside0.mk (below_step (by repeat (first | (with_reducible first | exact HB.out | apply below_alloc | apply pw_below_drewN | apply below_drew1) | exact HB.out)) hb); have n1_ := Aside0.mk (hbox); have n2_ := Aside0.mk ((by rw [hg]; exact (below_size (by repeat (first | (with_reducible first | exact HB.out | apply below_alloc | apply pw_below_drewN | apply below_drew1) | exact HB.out))) : w.heap.size ≤ gb491)); have n3_ := Aside0.mk ((by rw [hg]; exact (below_size (by repeat (first | (with_reducible first | exact HB.out | apply below_alloc | apply pw_below_drewN | apply below_drew1) | exact HB.out))) : w.heap.size ≤ gb491)); clear HB; have HB := n0_; have BK491 := n1_; have GW491 := n2_; have GE491 := n3_; clear n0_ n1_ n2_ n3_; clear hb hbox hg))
      repeat (go_quiet (first | ((with_reducible refine gate_dst (N := 4) rfl ?_); refine box_event ?hg (N := 4) ?hd (cs := #[.complex .f64 0 0, .complex .f64 0 0, .complex .f64 0 0, .complex .f64 0 0]) (t := 54) ?hr ?_; (case hd => rfl); (case hg => rfl); (case hr => first | (go_simp; done) | (go_simp; rfl)); intro gb491 hg w5 hbox hb; have n0_ := Aside0.mk (below_step (by repeat (first | (with_reducible first | exact HB.out | apply below_alloc | apply pw_below_drewN | apply below_drew1) | exact HB.out)) hb); have n1_ := Aside0.mk (hbox); have n2_ := Aside0.mk ((by rw [hg]; exact (below_size (by repeat (first | (with_reducible first | exact HB.out | apply below_alloc | apply pw_below_drewN | apply below_drew1) | exact HB.out))) : w.heap.size ≤ gb491)); have n3_ := Aside0.mk ((by rw [hg]; exact (below_size (by repeat (first | (with_reducible first | exact HB.out | apply below_alloc | apply pw_below_drewN | apply below_drew1) | exact HB.out))) : w.heap.size ≤ gb491)); clear HB; have HB := n0_; have BK491 := n1_; have GW491 := n2_; have GE491 := n3_; clear n0_ n1_ n2_ n3_; clear hb hbox hg)); try go_wp2_with (first | ((with_reducible refine gate_dst (N := 4) rfl ?_); refine box_event ?hg (N := 4) ?hd (cs := #[.complex .f64 0 0, .complex .f64 0 0, .complex .f64 0 0, .complex .f64 0 0]) (t := 54) ?hr ?_; (case hd => rfl); (case hg => rfl); (case hr => first | (go_simp; done) | (go_simp; rfl)); intro gb491 hg w5 hbox hb; have n0_ := Aside0.mk (below_step (by repeat (first | (with_reducible first | exact HB.out | apply below_alloc | apply pw_below_drewN | apply below_drew1) | exact HB.out)) hb); have n1_ := Aside0.mk (hbox); have n2_ := Aside0.mk ((by rw [hg]; exact (below_size (by repeat (first | (with_reducible first | exact HB.out | apply below_alloc | apply pw_below_drewN | apply below_drew1) | exact HB.out))) : w.heap.size ≤ gb491)); have n3_ := Aside0.mk ((by rw [hg]; exact (below_size (by repeat (first | (with_reducible first | exact HB.out | apply below_alloc | apply pw_below_drewN | apply below_drew1) | exact HB.out))) : w.heap.size ≤ gb491)); clear HB; have HB := n0_; have BK491 := n1_; have GW491 := n2_; have GE491 := n3_; clear n0_ n1_ n2_ n3_; clear hb hbox hg)))
      go_loopg [5] kj1 (fun kq v5 w' => ∃ (x5_3 : Int) (x492000_3 : C128) (x492001_3 : C128) (x492002_3 : C128) (x492003_3 : C128), v5 = .int .i64 x5_3 ∧ Aside0 (arraslaw3_PointBoth.l1 kq l0 x3_1 x5_3 x492000_3 x492001_3 x492002_3 x492003_3 = some r) ∧ Aside0 (kq ≤ kj1) ∧ Aside0 (w'.heap[gb491]? = some (.cells #[.complex .f64 x492000_3.1 x492000_3.2, .complex .f64 x492001_3.1 x492001_3.2, .complex .f64 x492002_3.1 x492002_3.2, .complex .f64 x492003_3.1 x492003_3.2] 54 (0, 0))) ∧ Aside0 (Below w.heap.size w w'))
      case atStart => exact ⟨(0), (((0, 0) : C128)), (((0, 0) : C128)), (((0, 0) : C128)), (((0, 0) : C128)), (by first | rfl | (simp; done) | (simp [*]; done)), H', ⟨Nat.le_refl _⟩, ⟨by (with_reducible repeat (first | refine blk_drewN ?_ _ | refine blk_drew ?_ | refine blk_alloc ?_ _)); exact BK491.out⟩, ⟨by repeat (first | (with_reducible first | exact HB.out | apply below_alloc | apply pw_below_drewN | apply below_drew1 | refine below_set ?_ GE491.out) | exact HB.out)⟩⟩
      case round => as_aux_lemma =>
       clear H'
       try clear p2
       try clear c3
       try clear c3b0
       try clear c4
       try clear p2
       obtain ⟨x5_3, x492000_3, x492001_3, x492002_3, x492003_3, rfl, HA, HK3, BK491, HB⟩ := hrel
       cases gk with
       | zero => exact absurd HA.out (by simp [arraslaw3_PointBoth.l1])
       | succ k3 =>
        have H := HA.out
        clear HA
        simp only [arraslaw3_PointBoth.l1] at H
        by_cases c6 : x5_3 < 4
        ·rw [if_pos c6] at H
         have c6b0 : decide (x5_3 < 4) = true := decide_eq_true c6
         clear c6
         by_cases c7 : 0 ≤ x3_1
         ·rw [if_pos c7] at H
          have c7b0 : decide (0 ≤ x3_1) = true := decide_eq_true c7
          clear c7
          by_cases c8 : x3_1 < (l0.length : Int)
          ·rw [if_pos c8] at H
           have c8b0 : decide (x3_1 < (l0.length : Int)) = true := decide_eq_true c8
           clear c8
           obtain ⟨ji9, hji9⟩ : ∃ j_ : Int, (wrap64 (5 * x5_3)) = j_ := ⟨_, rfl⟩
           replace H : (if 0 ≤ (ji9) then ((arraslaw0_Within.f (shr .i64 ((rd_T26 l0 x3_1).f0) (ji9)) 20).bind fun t493 => ((arraslaw0_Within.f (shr .i64 ((rd_T26 l0 x3_1).f1) (ji9)) 20).bind fun t495 => ((point_Of.f t493 t495).bind fun bt496 => ((arraslaw3_num.f bt496.2).bind fun t498 => (if t498 = 0 then (if x5_3 = 0 then (arraslaw3_PointBoth.l1 k3 l0 x3_1 (wrap64 (x5_3 + 1)) bt496.1 x492001_3 x492002_3 x492003_3) else (if x5_3 = 1 then (arraslaw3_PointBoth.l1 k3 l0 x3_1 (wrap64 (x5_3 + 1)) x492000_3 bt496.1 x492002_3 x492003_3) else (if x5_3 = 2 then (arraslaw3_PointBoth.l1 k3 l0 x3_1 (wrap64 (x5_3 + 1)) x492000_3 x492001_3 bt496.1 x492003_3) else (if x5_3 = 3 then (arraslaw3_PointBoth.l1 k3 l0 x3_1 (wrap64 (x5_3 + 1)) x492000_3 x492001_3 x492002_3 bt496.1) else (none))))) else (some false)))))) else (none)) = some r := by first | (rw [hji9] at H; exact H) | (simp only [hji9] at H ⊢; exact H)
           have hji9w : (IntKind.i64.wrap (5 * x5_3)) = ji9 := (i64_w _).trans hji9
           by_cases c10 : 0 ≤ (ji9)
           ·rw [if_pos c10] at H
            have c10b0 := eq_true c10
            have c10b1 : decide (0 ≤ (ji9)) = true := decide_eq_true c10
            clear c10
            obtain ⟨ji11, hji11⟩ : ∃ j_ : Int, (shr .i64 ((rd_T26 l0 x3_1).f0) (ji9)) = j_ := ⟨_, rfl⟩
            replace H : ((arraslaw0_Within.f (ji11) 20).bind fun t493 => ((arraslaw0_Within.f (shr .i64 ((rd_T26 l0 x3_1).f1) (ji9)) 20).bind fun t495 => ((point_Of.f t493 t495).bind fun bt496 => ((arraslaw3_num.f bt496.2).bind fun t498 => (if t498 = 0 then (if x5_3 = 0 then (arraslaw3_PointBoth.l1 k3 l0 x3_1 (wrap64 (x5_3 + 1)) bt496.1 x492001_3 x492002_3 x492003_3) else (if x5_3 = 1 then (arraslaw3_PointBoth.l1 k3 l0 x3_1 (wrap64 (x5_3 + 1)) x492000_3 bt496.1 x492002_3 x492003_3) else (if x5_3 = 2 then (arraslaw3_PointBoth.l1 k3 l0 x3_1 (wrap64 (x5_3 + 1)) x492000_3 x492001_3 bt496.1 x492003_3) else (if x5_3 = 3 then (arraslaw3_PointBoth.l1 k3 l0 x3_1 (wrap64 (x5_3 + 1)) x492000_3 x492001_3 x492002_3 bt496.1) else (none))))) else (some false)))))) = some r := by first | (rw [hji11] at H; exact H) | (simp only [hji11] at H ⊢; exact H)
            have hji11_ : (((rd_T26 l0 x3_1).f0) / 2 ^ min (ji9).toNat 64) = ji11 := hji11
            have hji11z : (ji9) ≤ 64 → (((rd_T26 l0 x3_1).f0) / 2 ^ (ji9).toNat) = ji11 := shr_small hji11
            replace H := Option.bind_eq_some_iff.mp H
            obtain ⟨t493, A120, H⟩ := H
            replace H : ((arraslaw0_Within.f (shr .i64 ((rd_T26 l0 x3_1).f1) (ji9)) 20).bind fun t495 => ((point_Of.f t493 t495).bind fun bt496 => ((arraslaw3_num.f bt496.2).bind fun t498 => (if t498 = 0 then (if x5_3 = 0 then (arraslaw3_PointBoth.l1 k3 l0 x3_1 (wrap64 (x5_3 + 1)) bt496.1 x492001_3 x492002_3 x492003_3) else (if x5_3 = 1 then (arraslaw3_PointBoth.l1 k3 l0 x3_1 (wrap64 (x5_3 + 1)) x492000_3 bt496.1 x492002_3 x492003_3) else (if x5_3 = 2 then (arraslaw3_PointBoth.l1 k3 l0 x3_1 (wrap64 (x5_3 + 1)) x492000_3 x492001_3 bt496.1 x492003_3) else (if x5_3 = 3 then (arraslaw3_PointBoth.l1 k3 l0 x3_1 (wrap64 (x5_3 + 1)) x492000_3 x492001_3 x492002_3 bt496.1) else (none))))) else (some false))))) = some r := H
            have A12 := Aside0.mk A120; clear A120
            have c13b0 := eq_true (of_decide_eq_true (by first | (with_reducible assumption) | assumption) : 0 ≤ (ji9))
            obtain ⟨ji14, hji14⟩ : ∃ j_ : Int, (shr .i64 ((rd_T26 l0 x3_1).f1) (ji9)) = j_ := ⟨_, rfl⟩
            replace H : ((arraslaw0_Within.f (ji14) 20).bind fun t495 => ((point_Of.f t493 t495).bind fun bt496 => ((arraslaw3_num.f bt496.2).bind fun t498 => (if t498 = 0 then (if x5_3 = 0 then (arraslaw3_PointBoth.l1 k3 l0 x3_1 (wrap64 (x5_3 + 1)) bt496.1 x492001_3 x492002_3 x492003_3) else (if x5_3 = 1 then (arraslaw3_PointBoth.l1 k3 l0 x3_1 (wrap64 (x5_3 + 1)) x492000_3 bt496.1 x492002_3 x492003_3) else (if x5_3 = 2 then (arraslaw3_PointBoth.l1 k3 l0 x3_1 (wrap64 (x5_3 + 1)) x492000_3 x492001_3 bt496.1 x492003_3) else (if x5_3 = 3 then (arraslaw3_PointBoth.l1 k3 l0 x3_1 (wrap64 (x5_3 + 1)) x492000_3 x492001_3 x492002_3 bt496.1) else (none))))) else (some false))))) = some r := by first | (rw [hji14] at H; exact H) | (simp only [hji14] at H ⊢; exact H)
            (try rw [hji14] at A12)
            have hji14_ : (((rd_T26 l0 x3_1).f1) / 2 ^ min (ji9).toNat 64) = ji14 := hji14
            have hji14z : (ji9) ≤ 64 → (((rd_T26 l0 x3_1).f1) / 2 ^ (ji9).toNat) = ji14 := shr_small hji14
            replace H := Option.bind_eq_some_iff.mp H
            obtain ⟨t495, A150, H⟩ := H
            replace H : ((point_Of.f t493 t495).bind fun bt496 => ((arraslaw3_num.f bt496.2).bind fun t498 => (if t498 = 0 then (if x5_3 = 0 then (arraslaw3_PointBoth.l1 k3 l0 x3_1 (wrap64 (x5_3 + 1)) bt496.1 x492001_3 x492002_3 x492003_3) else (if x5_3 = 1 then (arraslaw3_PointBoth.l1 k3 l0 x3_1 (wrap64 (x5_3 + 1)) x492000_3 bt496.1 x492002_3 x492003_3) else (if x5_3 = 2 then (arraslaw3_PointBoth.l1 k3 l0 x3_1 (wrap64 (x5_3 + 1)) x492000_3 x492001_3 bt496.1 x492003_3) else (if x5_3 = 3 then (arraslaw3_PointBoth.l1 k3 l0 x3_1 (wrap64 (x5_3 + 1)) x492000_3 x492001_3 x492002_3 bt496.1) else (none))))) else (some false)))) = some r := H
            have A15 := Aside0.mk A150; clear A150
            replace H := Option.bind_eq_some_iff.mp H
            obtain ⟨⟨t496, t497⟩, A160, H⟩ := H
            replace H : ((arraslaw3_num.f t497).bind fun t498 => (if t498 = 0 then (if x5_3 = 0 then (arraslaw3_PointBoth.l1 k3 l0 x3_1 (wrap64 (x5_3 + 1)) t496 x492001_3 x492002_3 x492003_3) else (if x5_3 = 1 then (arraslaw3_PointBoth.l1 k3 l0 x3_1 (wrap64 (x5_3 + 1)) x492000_3 t496 x492002_3 x492003_3) else (if x5_3 = 2 then (arraslaw3_PointBoth.l1 k3 l0 x3_1 (wrap64 (x5_3 + 1)) x492000_3 x492001_3 t496 x492003_3) else (if x5_3 = 3 then (arraslaw3_PointBoth.l1 k3 l0 x3_1 (wrap64 (x5_3 + 1)) x492000_3 x492001_3 x492002_3 t496) else (none))))) else (some false))) = some r := H
            have A16 := Aside0.mk A160; clear A160
            replace H := Option.bind_eq_some_iff.mp H
            obtain ⟨t498, A170, H⟩ := H
            replace H : (if t498 = 0 then (if x5_3 = 0 then (arraslaw3_PointBoth.l1 k3 l0 x3_1 (wrap64 (x5_3 + 1)) t496 x492001_3 x492002_3 x492003_3) else (if x5_3 = 1 then (arraslaw3_PointBoth.l1 k3 l0 x3_1 (wrap64 (x5_3 + 1)) x492000_3 t496 x492002_3 x492003_3) else (if x5_3 = 2 then (arraslaw3_PointBoth.l1 k3 l0 x3_1 (wrap64 (x5_3 + 1)) x492000_3 x492001_3 t496 x492003_3) else (if x5_3 = 3 then (arraslaw3_PointBoth.l1 k3 l0 x3_1 (wrap64 (x5_3 + 1)) x492000_3 x492001_3 x492002_3 t496) else (none))))) else (some false)) = some r := H
            have A17 := Aside0.mk A170; clear A170
            by_cases c18 : t498 = 0
            ·rw [if_pos c18] at H
             have c18b0 : (t498 == 0) = true := beq_iff_eq.mpr c18
             have c18b1 : (t498 != 0) = false := bne_eq_false_iff_eq.mpr c18
             clear c18
             by_cases c19 : x5_3 = 0
             ·rw [if_pos c19] at H
              have c19b0 : (x5_3 == 0) = true := beq_iff_eq.mpr c19
              have c19b1 : (x5_3 != 0) = false := bne_eq_false_iff_eq.mpr c19
              have c19b2 : x5_3.toNat = 0 := by (have h_ : x5_3 = 0 := c19; rw [h_]; rfl)
              have c19b3 : (0 ≤ x5_3) = True := eq_true (by (have h_ : x5_3 = 0 := c19; omega))
              have c19b4 : (x5_3 < 4) = True := eq_true (by (have h_ : x5_3 = 0 := c19; omega))
              have c19b5 : wrap64 (x5_3 + 1) = x5_3 + 1 := by (have h_ : x5_3 = 0 := c19; unfold wrap64; omega)
              clear c19
              have H' := Aside0.mk H
              clear H; have p492 : 0 ≤ (x3_1 : Int) := of_decide_eq_true (by first | (with_reducible assumption) | assumption); have q492 : x3_1 < (l0.length : Int) := of_decide_eq_true (by first | (with_reducible assumption) | assumption)
              obtain ⟨ad492, e492, hx492_0, hx492_1, hx492_2, hx492_3, hx492_4, hx492_5, hx492_6, hx492_7, hx492_8, hx492_9⟩ := at_T26 HR0.out x3_1 p492 q492
              cases e492
              replace hx492_0 := (HB.out.cell (World.block_lt_of_cell? w _ hx492_0)).trans hx492_0
              replace hx492_1 := (HB.out.cell (World.block_lt_of_cell? w _ hx492_1)).trans hx492_1
              replace hx492_2 := (HB.out.cell (World.block_lt_of_cell? w _ hx492_2)).trans hx492_2
              replace hx492_3 := (HB.out.cell (World.block_lt_of_cell? w _ hx492_3)).trans hx492_3
              replace hx492_4 := (HB.out.cell (World.block_lt_of_cell? w _ hx492_4)).trans hx492_4
              replace hx492_5 := (HB.out.cell (World.block_lt_of_cell? w _ hx492_5)).trans hx492_5
              replace hx492_6 := (HB.out.cell (World.block_lt_of_cell? w _ hx492_6)).trans hx492_6
              replace hx492_7 := (HB.out.cell (World.block_lt_of_cell? w _ hx492_7)).trans hx492_7
              replace hx492_8 := (HB.out.cell (World.block_lt_of_cell? w _ hx492_8)).trans hx492_8
              replace hx492_9 := (HB.out.cell (World.block_lt_of_cell? w _ hx492_9)).trans hx492_9
              replace p492 := eq_true p492; replace q492 := eq_true q492
              go_wp2_with (first | (go_at_call 22; (with_reducible refine (arraslaw0_Within.calls ji11 20 t493 _ A12.out).mono ?_); rintro e w' ⟨rfl, ⟨nd, rfl⟩⟩; (try first | exact ⟨rfl, _, World.drewN_drewN _ _ _⟩ | exact ⟨rfl, _, Eq.trans (World.drewN_drewN _ _ _) (congrArg (World.drewN _) (Nat.add_assoc _ _ _))⟩); have p494 : 0 ≤ (x3_1 : Int) := of_decide_eq_true (by first | (with_reducible assumption) | assumption); have q494 : x3_1 < (l0.length : Int) := of_decide_eq_true (by first | (with_reducible assumption) | assumption); obtain ⟨ad494, e494, hx494_0, hx494_1, hx494_2, hx494_3, hx494_4, hx494_5, hx494_6, hx494_7, hx494_8, hx494_9⟩ := at_T26 HR0.out x3_1 p494 q494; obtain rfl : ad492 = ad494 := (by injection e494); replace hx494_0 := (HB.out.cell (World.block_lt_of_cell? w _ hx494_0)).trans hx494_0; replace hx494_1 := (HB.out.cell (World.block_lt_of_cell? w _ hx494_1)).trans hx494_1; replace hx494_2 := (HB.out.cell (World.block_lt_of_cell? w _ hx494_2)).trans hx494_2; replace hx494_3 := (HB.out.cell (World.block_lt_of_cell? w _ hx494_3)).trans hx494_3; replace hx494_4 := (HB.out.cell (World.block_lt_of_cell? w _ hx494_4)).trans hx494_4; replace hx494_5 := (HB.out.cell (World.block_lt_of_cell? w _ hx494_5)).trans hx494_5; replace hx494_6 := (HB.out.cell (World.block_lt_of_cell? w _ hx494_6)).trans hx494_6; replace hx494_7 := (HB.out.cell (World.block_lt_of_cell? w _ hx494_7)).trans hx494_7; replace hx494_8 := (HB.out.cell (World.block_lt_of_cell? w _ hx494_8)).trans hx494_8; replace hx494_9 := (HB.out.cell (World.block_lt_of_cell? w _ hx494_9)).trans hx494_9; replace p494 := eq_true p494; replace q494 := eq_true q494) | (go_at_call 22; (with_reducible refine (arraslaw0_Within.calls ji14 20 t495 _ A15.out).mono ?_); rintro e w' ⟨rfl, ⟨nd, rfl⟩⟩; (try first | exact ⟨rfl, _, World.drewN_drewN _ _ _⟩ | exact ⟨rfl, _, Eq.trans (World.drewN_drewN _ _ _) (congrArg (World.drewN _) (Nat.add_assoc _ _ _))⟩)) | (go_at_call 10; (with_reducible refine (point_Of.calls t493 t495 t496 t497 _ A16.out).mono ?_); rintro e w' ⟨rfl, ⟨nd, rfl⟩⟩; (try first | exact ⟨rfl, _, World.drewN_drewN _ _ _⟩ | exact ⟨rfl, _, Eq.trans (World.drewN_drewN _ _ _) (congrArg (World.drewN _) (Nat.add_assoc _ _ _))⟩)) | (go_at_call 17; (with_reducible refine (arraslaw3_num.calls t497 t498 _ A17.out).mono ?_); rintro e w' ⟨rfl, ⟨nd, rfl⟩⟩; (try first | exact ⟨rfl, _, World.drewN_drewN _ _ _⟩ | exact ⟨rfl, _, Eq.trans (World.drewN_drewN _ _ _) (congrArg (World.drewN _) (Nat.add_assoc _ _ _))⟩); have hcz20_0 : wr.cell? ⟨gb491, 0, none⟩ = some (.complex .f64 x492000_3.1 x492000_3.2) := (blk_cell BK491.out 0).trans rfl; have hcz20_1 : wr.cell? ⟨gb491, 1, none⟩ = some (.complex .f64 x492001_3.1 x492001_3.2) := (blk_cell BK491.out 1).trans rfl; have hcz20_2 : wr.cell? ⟨gb491, 2, none⟩ = some (.complex .f64 x492002_3.1 x492002_3.2) := (blk_cell BK491.out 2).trans rfl; have hcz20_3 : wr.cell? ⟨gb491, 3, none⟩ = some (.complex .f64 x492003_3.1 x492003_3.2) := (blk_cell BK491.out 3).trans rfl; have hfz20_0 := blk_frozen BK491.out 0; have hfz20_1 := blk_frozen BK491.out 1; have hfz20_2 := blk_frozen BK491.out 2; have hfz20_3 := blk_frozen BK491.out 3))
              repeat (go_quiet (first | (go_at_call 22; (with_reducible refine (arraslaw0_Within.calls ji11 20 t493 _ A12.out).mono ?_); rintro e w' ⟨rfl, ⟨nd, rfl⟩⟩; (try first | exact ⟨rfl, _, World.drewN_drewN _ _ _⟩ | exact ⟨rfl, _, Eq.trans (World.drewN_drewN _ _ _) (congrArg (World.drewN _) (Nat.add_assoc _ _ _))⟩); have p494 : 0 ≤ (x3_1 : Int) := of_decide_eq_true (by first | (with_reducible assumption) | assumption); have q494 : x3_1 < (l0.length : Int) := of_decide_eq_true (by first | (with_reducible assumption) | assumption); obtain ⟨ad494, e494, hx494_0, hx494_1, hx494_2, hx494_3, hx494_4, hx494_5, hx494_6, hx494_7, hx494_8, hx494_9⟩ := at_T26 HR0.out x3_1 p494 q494; obtain rfl : ad492 = ad494 := (by injection e494); replace hx494_0 := (HB.out.cell (World.block_lt_of_cell? w _ hx494_0)).trans hx494_0; replace hx494_1 := (HB.out.cell (World.block_lt_of_cell? w _ hx494_1)).trans hx494_1; replace hx494_2 := (HB.out.cell (World.block_lt_of_cell? w _ hx494_2)).trans hx494_2; replace hx494_3 := (HB.out.cell (World.block_lt_of_cell? w _ hx494_3)).trans hx494_3; replace hx494_4 := (HB.out.cell (World.block_lt_of_cell? w _ hx494_4)).trans hx494_4; replace hx494_5 := (HB.out.cell (World.block_lt_of_cell? w _ hx494_5)).trans hx494_5; replace hx494_6 := (HB.out.cell (World.block_lt_of_cell? w _ hx494_6)).trans hx494_6; replace hx494_7 := (HB.out.cell (World.block_lt_of_cell? w _ hx494_7)).trans hx494_7; replace hx494_8 := (HB.out.cell (World.block_lt_of_cell? w _ hx494_8)).trans hx494_8; replace hx494_9 := (HB.out.cell (World.block_lt_of_cell? w _ hx494_9)).trans hx494_9; replace p494 := eq_true p494; replace q494 := eq_true q494) | (go_at_call 22; (with_reducible refine (arraslaw0_Within.calls ji14 20 t495 _ A15.out).mono ?_); rintro e w' ⟨rfl, ⟨nd, rfl⟩⟩; (try first | exact ⟨rfl, _, World.drewN_drewN _ _ _⟩ | exact ⟨rfl, _, Eq.trans (World.drewN_drewN _ _ _) (congrArg (World.drewN _) (Nat.add_assoc _ _ _))⟩)) | (go_at_call 10; (with_reducible refine (point_Of.calls t493 t495 t496 t497 _ A16.out).mono ?_); rintro e w' ⟨rfl, ⟨nd, rfl⟩⟩; (try first | exact ⟨rfl, _, World.drewN_drewN _ _ _⟩ | exact ⟨rfl, _, Eq.trans (World.drewN_drewN _ _ _) (congrArg (World.drewN _) (Nat.add_assoc _ _ _))⟩)) | (go_at_call 17; (with_reducible refine (arraslaw3_num.calls t497 t498 _ A17.out).mono ?_); rintro e w' ⟨rfl, ⟨nd, rfl⟩⟩; (try first | exact ⟨rfl, _, World.drewN_drewN _ _ _⟩ | exact ⟨rfl, _, Eq.trans (World.drewN_drewN _ _ _) (congrArg (World.drewN _) (Nat.add_assoc _ _ _))⟩); have hcz20_0 : wr.cell? ⟨gb491, 0, none⟩ = some (.complex .f64 x492000_3.1 x492000_3.2) := (blk_cell BK491.out 0).trans rfl; have hcz20_1 : wr.cell? ⟨gb491, 1, none⟩ = some (.complex .f64 x492001_3.1 x492001_3.2) := (blk_cell BK491.out 1).trans rfl; have hcz20_2 : wr.cell? ⟨gb491, 2, none⟩ = some (.complex .f64 x492002_3.1 x492002_3.2) := (blk_cell BK491.out 2).trans rfl; have hcz20_3 : wr.cell? ⟨gb491, 3, none⟩ = some (.complex .f64 x492003_3.1 x492003_3.2) := (blk_cell BK491.out 3).trans rfl; have hfz20_0 := blk_frozen BK491.out 0; have hfz20_1 := blk_frozen BK491.out 1; have hfz20_2 := blk_frozen BK491.out 2; have hfz20_3 := blk_frozen BK491.out 3)); try go_wp2_with (first | (go_at_call 22; (with_reducible refine (arraslaw0_Within.calls ji11 20 t493 _ A12.out).mono ?_); rintro e w' ⟨rfl, ⟨nd, rfl⟩⟩; (try first | exact ⟨rfl, _, World.drewN_drewN _ _ _⟩ | exact ⟨rfl, _, Eq.trans (World.drewN_drewN _ _ _) (congrArg (World.drewN _) (Nat.add_assoc _ _ _))⟩); have p494 : 0 ≤ (x3_1 : Int) := of_decide_eq_true (by first | (with_reducible assumption) | assumption); have q494 : x3_1 < (l0.length : Int) := of_decide_eq_true (by first | (with_reducible assumption) | assumption); obtain ⟨ad494, e494, hx494_0, hx494_1, hx494_2, hx494_3, hx494_4, hx494_5, hx494_6, hx494_7, hx494_8, hx494_9⟩ := at_T26 HR0.out x3_1 p494 q494; obtain rfl : ad492 = ad494 := (by injection e494); replace hx494_0 := (HB.out.cell (World.block_lt_of_cell? w _ hx494_0)).trans hx494_0; replace hx494_1 := (HB.out.cell (World.block_lt_of_cell? w _ hx494_1)).trans hx494_1; replace hx494_2 := (HB.out.cell (World.block_lt_of_cell? w _ hx494_2)).trans hx494_2; replace hx494_3 := (HB.out.cell (World.block_lt_of_cell? w _ hx494_3)).trans hx494_3; replace hx494_4 := (HB.out.cell (World.block_lt_of_cell? w _ hx494_4)).trans hx494_4; replace hx494_5 := (HB.out.cell (World.block_lt_of_cell? w _ hx494_5)).trans hx494_5; replace hx494_6 := (HB.out.cell (World.block_lt_of_cell? w _ hx494_6)).trans hx494_6; replace hx494_7 := (HB.out.cell (World.block_lt_of_cell? w _ hx494_7)).trans hx494_7; replace hx494_8 := (HB.out.cell (World.block_lt_of_cell? w _ hx494_8)).trans hx494_8; replace hx494_9 := (HB.out.cell (World.block_lt_of_cell? w _ hx494_9)).trans hx494_9; replace p494 := eq_true p494; replace q494 := eq_true q494) | (go_at_call 22; (with_reducible refine (arraslaw0_Within.calls ji14 20 t495 _ A15.out).mono ?_); rintro e w' ⟨rfl, ⟨nd, rfl⟩⟩; (try first | exact ⟨rfl, _, World.drewN_drewN _ _ _⟩ | exact ⟨rfl, _, Eq.trans (World.drewN_drewN _ _ _) (congrArg (World.drewN _) (Nat.add_assoc _ _ _))⟩)) | (go_at_call 10; (with_reducible refine (point_Of.calls t493 t495 t496 t497 _ A16.out).mono ?_); rintro e w' ⟨rfl, ⟨nd, rfl⟩⟩; (try first | exact ⟨rfl, _, World.drewN_drewN _ _ _⟩ | exact ⟨rfl, _, Eq.trans (World.drewN_drewN _ _ _) (congrArg (World.drewN _) (Nat.add_assoc _ _ _))⟩)) | (go_at_call 17; (with_reducible refine (arraslaw3_num.calls t497 t498 _ A17.out).mono ?_); rintro e w' ⟨rfl, ⟨nd, rfl⟩⟩; (try first | exact ⟨rfl, _, World.drewN_drewN _ _ _⟩ | exact ⟨rfl, _, Eq.trans (World.drewN_drewN _ _ _) (congrArg (World.drewN _) (Nat.add_assoc _ _ _))⟩); have hcz20_0 : wr.cell? ⟨gb491, 0, none⟩ = some (.complex .f64 x492000_3.1 x492000_3.2) := (blk_cell BK491.out 0).trans rfl; have hcz20_1 : wr.cell? ⟨gb491, 1, none⟩ = some (.complex .f64 x492001_3.1 x492001_3.2) := (blk_cell BK491.out 1).trans rfl; have hcz20_2 : wr.cell? ⟨gb491, 2, none⟩ = some (.complex .f64 x492002_3.1 x492002_3.2) := (blk_cell BK491.out 2).trans rfl; have hcz20_3 : wr.cell? ⟨gb491, 3, none⟩ = some (.complex .f64 x492003_3.1 x492003_3.2) := (blk_cell BK491.out 3).trans rfl; have hfz20_0 := blk_frozen BK491.out 0; have hfz20_1 := blk_frozen BK491.out 1; have hfz20_2 := blk_frozen BK491.out 2; have hfz20_3 := blk_frozen BK491.out 3)))
              go_roundg k3
              case measure => have := HK1.out; have := HJ1.out; have := HK3.out; omega
              case rel => exact ⟨(wrap64 (x5_3 + 1)), (t496), (x492001_3), (x492002_3), (x492003_3), (by first | rfl | (simp; done) | (simp [*]; done)), H', ⟨by have := HK1.out; have := HJ1.out; have := HK3.out; omega⟩, ⟨by (with_reducible repeat (first | refine blk_drewN ?_ _ | refine blk_drew ?_ | refine blk_alloc ?_ _)); refine blk_put (cs := #[.complex .f64 x492000_3.1 x492000_3.2, .complex .f64 x492001_3.1 x492001_3.2, .complex .f64 x492002_3.1 x492002_3.2, .complex .f64 x492003_3.1 x492003_3.2]) ?_ 0 _ rfl; (with_reducible repeat (first | refine blk_drewN ?_ _ | refine blk_drew ?_ | refine blk_alloc ?_ _)); exact BK491.out⟩, ⟨by repeat (first | (with_reducible first | exact HB.out | apply below_alloc | apply pw_below_drewN | apply below_drew1 | refine below_set ?_ GE491.out) | exact HB.out)⟩⟩
             ·rw [if_neg c19] at H
              have c19b0 : (x5_3 == 0) = false := beq_eq_false_iff_ne.mpr c19
              have c19b1 : (x5_3 != 0) = true := bne_iff_ne.mpr c19
              by_cases c21 : x5_3 = 1
              ·rw [if_pos c21] at H
               have c21b0 : (x5_3 == 1) = true := beq_iff_eq.mpr c21
               have c21b1 : (x5_3 != 1) = false := bne_eq_false_iff_eq.mpr c21
               have c21b2 : x5_3.toNat = 1 := by (have h_ : x5_3 = 1 := c21; rw [h_]; rfl)
               have c21b3 : (0 ≤ x5_3) = True := eq_true (by (have h_ : x5_3 = 1 := c21; omega))
               have c21b4 : (x5_3 < 4) = True := eq_true (by (have h_ : x5_3 = 1 := c21; omega))
               have c21b5 : wrap64 (x5_3 + 1) = x5_3 + 1 := by (have h_ : x5_3 = 1 := c21; unfold wrap64; omega)
               clear c21
               have H' := Aside0.mk H
               clear H; have p492 : 0 ≤ (x3_1 : Int) := of_decide_eq_true (by first | (with_reducible assumption) | assumption); have q492 : x3_1 < (l0.length : Int) := of_decide_eq_true (by first | (with_reducible assumption) | assumption)
               obtain ⟨ad492, e492, hx492_0, hx492_1, hx492_2, hx492_3, hx492_4, hx492_5, hx492_6, hx492_7, hx492_8, hx492_9⟩ := at_T26 HR0.out x3_1 p492 q492
               cases e492
               replace hx492_0 := (HB.out.cell (World.block_lt_of_cell? w _ hx492_0)).trans hx492_0
               replace hx492_1 := (HB.out.cell (World.block_lt_of_cell? w _ hx492_1)).trans hx492_1
               replace hx492_2 := (HB.out.cell (World.block_lt_of_cell? w _ hx492_2)).trans hx492_2
               replace hx492_3 := (HB.out.cell (World.block_lt_of_cell? w _ hx492_3)).trans hx492_3
               replace hx492_4 := (HB.out.cell (World.block_lt_of_cell? w _ hx492_4)).trans hx492_4
               replace hx492_5 := (HB.out.cell (World.block_lt_of_cell? w _ hx492_5)).trans hx492_5
               replace hx492_6 := (HB.out.cell (World.block_lt_of_cell? w _ hx492_6)).trans hx492_6
               replace hx492_7 := (HB.out.cell (World.block_lt_of_cell? w _ hx492_7)).trans hx492_7
               replace hx492_8 := (HB.out.cell (World.block_lt_of_cell? w _ hx492_8)).trans hx492_8
               replace hx492_9 := (HB.out.cell (World.block_lt_of_cell? w _ hx492_9)).trans hx492_9
               replace p492 := eq_true p492; replace q492 := eq_true q492
               go_wp2_with (first | (go_at_call 22; (with_reducible refine (arraslaw0_Within.calls ji11 20 t493 _ A12.out).mono ?_); rintro e w' ⟨rfl, ⟨nd, rfl⟩⟩; (try first | exact ⟨rfl, _, World.drewN_drewN _ _ _⟩ | exact ⟨rfl, _, Eq.trans (World.drewN_drewN _ _ _) (congrArg (World.drewN _) (Nat.add_assoc _ _ _))⟩); have p494 : 0 ≤ (x3_1 : Int) := of_decide_eq_true (by first | (with_reducible assumption) | assumption); have q494 : x3_1 < (l0.length : Int) := of_decide_eq_true (by first | (with_reducible assumption) | assumption); obtain ⟨ad494, e494, hx494_0, hx494_1, hx494_2, hx494_3, hx494_4, hx494_5, hx494_6, hx494_7, hx494_8, hx494_9⟩ := at_T26 HR0.out x3_1 p494 q494; obtain rfl : ad492 = ad494 := (by injection e494); replace hx494_0 := (HB.out.cell (World.block_lt_of_cell? w _ hx494_0)).trans hx494_0; replace hx494_1 := (HB.out.cell (World.block_lt_of_cell? w _ hx494_1)).trans hx494_1; replace hx494_2 := (HB.out.cell (World.block_lt_of_cell? w _ hx494_2)).trans hx494_2; replace hx494_3 := (HB.out.cell (World.block_lt_of_cell? w _ hx494_3)).trans hx494_3; replace hx494_4 := (HB.out.cell (World.block_lt_of_cell? w _ hx494_4)).trans hx494_4; replace hx494_5 := (HB.out.cell (World.block_lt_of_cell? w _ hx494_5)).trans hx494_5; replace hx494_6 := (HB.out.cell (World.block_lt_of_cell? w _ hx494_6)).trans hx494_6; replace hx494_7 := (HB.out.cell (World.block_lt_of_cell? w _ hx494_7)).trans hx494_7; replace hx494_8 := (HB.out.cell (World.block_lt_of_cell? w _ hx494_8)).trans hx494_8; replace hx494_9 := (HB.out.cell (World.block_lt_of_cell? w _ hx494_9)).trans hx494_9; replace p494 := eq_true p494; replace q494 := eq_true q494) | (go_at_call 22; (with_reducible refine (arraslaw0_Within.calls ji14 20 t495 _ A15.out).mono ?_); rintro e w' ⟨rfl, ⟨nd, rfl⟩⟩; (try first | exact ⟨rfl, _, World.drewN_drewN _ _ _⟩ | exact ⟨rfl, _, Eq.trans (World.drewN_drewN _ _ _) (congrArg (World.drewN _) (Nat.add_assoc _ _ _))⟩)) | (go_at_call 10; (with_reducible refine (point_Of.calls t493 t495 t496 t497 _ A16.out).mono ?_); rintro e w' ⟨rfl, ⟨nd, rfl⟩⟩; (try first | exact ⟨rfl, _, World.drewN_drewN _ _ _⟩ | exact ⟨rfl, _, Eq.trans (World.drewN_drewN _ _ _) (congrArg (World.drewN _) (Nat.add_assoc _ _ _))⟩)) | (go_at_call 17; (with_reducible refine (arraslaw3_num.calls t497 t498 _ A17.out).mono ?_); rintro e w' ⟨rfl, ⟨nd, rfl⟩⟩; (try first | exact ⟨rfl, _, World.drewN_drewN _ _ _⟩ | exact ⟨rfl, _, Eq.trans (World.drewN_drewN _ _ _) (congrArg (World.drewN _) (Nat.add_assoc _ _ _))⟩); have hcz22_0 : wr.cell? ⟨gb491, 0, none⟩ = some (.complex .f64 x492000_3.1 x492000_3.2) := (blk_cell BK491.out 0).trans rfl; have hcz22_1 : wr.cell? ⟨gb491, 1, none⟩ = some (.complex .f64 x492001_3.1 x492001_3.2) := (blk_cell BK491.out 1).trans rfl; have hcz22_2 : wr.cell? ⟨gb491, 2, none⟩ = some (.complex .f64 x492002_3.1 x492002_3.2) := (blk_cell BK491.out 2).trans rfl; have hcz22_3 : wr.cell? ⟨gb491, 3, none⟩ = some (.complex .f64 x492003_3.1 x492003_3.2) := (blk_cell BK491.out 3).trans rfl; have hfz22_0 := blk_frozen BK491.out 0; have hfz22_1 := blk_frozen BK491.out 1; have hfz22_2 := blk_frozen BK491.out 2; have hfz22_3 := blk_frozen BK491.out 3))
               repeat (go_quiet (first | (go_at_call 22; (with_reducible refine (arraslaw0_Within.calls ji11 20 t493 _ A12.out).mono ?_); rintro e w' ⟨rfl, ⟨nd, rfl⟩⟩; (try first | exact ⟨rfl, _, World.drewN_drewN _ _ _⟩ | exact ⟨rfl, _, Eq.trans (World.drewN_drewN _ _ _) (congrArg (World.drewN _) (Nat.add_assoc _ _ _))⟩); have p494 : 0 ≤ (x3_1 : Int) := of_decide_eq_true (by first | (with_reducible assumption) | assumption); have q494 : x3_1 < (l0.length : Int) := of_decide_eq_true (by first | (with_reducible assumption) | assumption); obtain ⟨ad494, e494, hx494_0, hx494_1, hx494_2, hx494_3, hx494_4, hx494_5, hx494_6, hx494_7, hx494_8, hx494_9⟩ := at_T26 HR0.out x3_1 p494 q494; obtain rfl : ad492 = ad494 := (by injection e494); replace hx494_0 := (HB.out.cell (World.block_lt_of_cell? w _ hx494_0)).trans hx494_0; replace hx494_1 := (HB.out.cell (World.block_lt_of_cell? w _ hx494_1)).trans hx494_1; replace hx494_2 := (HB.out.cell (World.block_lt_of_cell? w _ hx494_2)).trans hx494_2; replace hx494_3 := (HB.out.cell (World.block_lt_of_cell? w _ hx494_3)).trans hx494_3; replace hx494_4 := (HB.out.cell (World.block_lt_of_cell? w _ hx494_4)).trans hx494_4; replace hx494_5 := (HB.out.cell (World.block_lt_of_cell? w _ hx494_5)).trans hx494_5; replace hx494_6 := (HB.out.cell (World.block_lt_of_cell? w _ hx494_6)).trans hx494_6; replace hx494_7 := (HB.out.cell (World.block_lt_of_cell? w _ hx494_7)).trans hx494_7; replace hx494_8 := (HB.out.cell (World.block_lt_of_cell? w _ hx494_8)).trans hx494_8; replace hx494_9 := (HB.out.cell (World.block_lt_of_cell? w _ hx494_9)).trans hx494_9; replace p494 := eq_true p494; replace q494 := eq_true q494) | (go_at_call 22; (with_reducible refine (arraslaw0_Within.calls ji14 20 t495 _ A15.out).mono ?_); rintro e w' ⟨rfl, ⟨nd, rfl⟩⟩; (try first | exact ⟨rfl, _, World.drewN_drewN _ _ _⟩ | exact ⟨rfl, _, Eq.trans (World.drewN_drewN _ _ _) (congrArg (World.drewN _) (Nat.add_assoc _ _ _))⟩)) | (go_at_call 10; (with_reducible refine (point_Of.calls t493 t495 t496 t497 _ A16.out).mono ?_); rintro e w' ⟨rfl, ⟨nd, rfl⟩⟩; (try first | exact ⟨rfl, _, World.drewN_drewN _ _ _⟩ | exact ⟨rfl, _, Eq.trans (World.drewN_drewN _ _ _) (congrArg (World.drewN _) (Nat.add_assoc _ _ _))⟩)) | (go_at_call 17; (with_reducible refine (arraslaw3_num.calls t497 t498 _ A17.out).mono ?_); rintro e w' ⟨rfl, ⟨nd, rfl⟩⟩; (try first | exact ⟨rfl, _, World.drewN_drewN _ _ _⟩ | exact ⟨rfl, _, Eq.trans (World.drewN_drewN _ _ _) (congrArg (World.drewN _) (Nat.add_assoc _ _ _))⟩); have hcz22_0 : wr.cell? ⟨gb491, 0, none⟩ = some (.complex .f64 x492000_3.1 x492000_3.2) := (blk_cell BK491.out 0).trans rfl; have hcz22_1 : wr.cell? ⟨gb491, 1, none⟩ = some (.complex .f64 x492001_3.1 x492001_3.2) := (blk_cell BK491.out 1).trans rfl; have hcz22_2 : wr.cell? ⟨gb491, 2, none⟩ = some (.complex .f64 x492002_3.1 x492002_3.2) := (blk_cell BK491.out 2).trans rfl; have hcz22_3 : wr.cell? ⟨gb491, 3, none⟩ = some (.complex .f64 x492003_3.1 x492003_3.2) := (blk_cell BK491.out 3).trans rfl; have hfz22_0 := blk_frozen BK491.out 0; have hfz22_1 := blk_frozen BK491.out 1; have hfz22_2 := blk_frozen BK491.out 2; have hfz22_3 := blk_frozen BK491.out 3)); try go_wp2_with (first | (go_at_call 22; (with_reducible refine (arraslaw0_Within.calls ji11 20 t493 _ A12.out).mono ?_); rintro e w' ⟨rfl, ⟨nd, rfl⟩⟩; (try first | exact ⟨rfl, _, World.drewN_drewN _ _ _⟩ | exact ⟨rfl, _, Eq.trans (World.drewN_drewN _ _ _) (congrArg (World.drewN _) (Nat.add_assoc _ _ _))⟩); have p494 : 0 ≤ (x3_1 : Int) := of_decide_eq_true (by first | (with_reducible assumption) | assumption); have q494 : x3_1 < (l0.length : Int) := of_decide_eq_true (by first | (with_reducible assumption) | assumption); obtain ⟨ad494, e494, hx494_0, hx494_1, hx494_2, hx494_3, hx494_4, hx494_5, hx494_6, hx494_7, hx494_8, hx494_9⟩ := at_T26 HR0.out x3_1 p494 q494; obtain rfl : ad492 = ad494 := (by injection e494); replace hx494_0 := (HB.out.cell (World.block_lt_of_cell? w _ hx494_0)).trans hx494_0; replace hx494_1 := (HB.out.cell (World.block_lt_of_cell? w _ hx494_1)).trans hx494_1; replace hx494_2 := (HB.out.cell (World.block_lt_of_cell? w _ hx494_2)).trans hx494_2; replace hx494_3 := (HB.out.cell (World.block_lt_of_cell? w _ hx494_3)).trans hx494_3; replace hx494_4 := (HB.out.cell (World.block_lt_of_cell? w _ hx494_4)).trans hx494_4; replace hx494_5 := (HB.out.cell (World.block_lt_of_cell? w _ hx494_5)).trans hx494_5; replace hx494_6 := (HB.out.cell (World.block_lt_of_cell? w _ hx494_6)).trans hx494_6; replace hx494_7 := (HB.out.cell (World.block_lt_of_cell? w _ hx494_7)).trans hx494_7; replace hx494_8 := (HB.out.cell (World.block_lt_of_cell? w _ hx494_8)).trans hx494_8; replace hx494_9 := (HB.out.cell (World.block_lt_of_cell? w _ hx494_9)).trans hx494_9; replace p494 := eq_true p494; replace q494 := eq_true q494) | (go_at_call 22; (with_reducible refine (arraslaw0_Within.calls ji14 20 t495 _ A15.out).mono ?_); rintro e w' ⟨rfl, ⟨nd, rfl⟩⟩; (try first | exact ⟨rfl, _, World.drewN_drewN _ _ _⟩ | exact ⟨rfl, _, Eq.trans (World.drewN_drewN _ _ _) (congrArg (World.drewN _) (Nat.add_assoc _ _ _))⟩)) | (go_at_call 10; (with_reducible refine (point_Of.calls t493 t495 t496 t497 _ A16.out).mono ?_); rintro e w' ⟨rfl, ⟨nd, rfl⟩⟩; (try first | exact ⟨rfl, _, World.drewN_drewN _ _ _⟩ | exact ⟨rfl, _, Eq.trans (World.drewN_drewN _ _ _) (congrArg (World.drewN _) (Nat.add_assoc _ _ _))⟩)) | (go_at_call 17; (with_reducible refine (arraslaw3_num.calls t497 t498 _ A17.out).mono ?_); rintro e w' ⟨rfl, ⟨nd, rfl⟩⟩; (try first | exact ⟨rfl, _, World.drewN_drewN _ _ _⟩ | exact ⟨rfl, _, Eq.trans (World.drewN_drewN _ _ _) (congrArg (World.drewN _) (Nat.add_assoc _ _ _))⟩); have hcz22_0 : wr.cell? ⟨gb491, 0, none⟩ = some (.complex .f64 x492000_3.1 x492000_3.2) := (blk_cell BK491.out 0).trans rfl; have hcz22_1 : wr.cell? ⟨gb491, 1, none⟩ = some (.complex .f64 x492001_3.1 x492001_3.2) := (blk_cell BK491.out 1).trans rfl; have hcz22_2 : wr.cell? ⟨gb491, 2, none⟩ = some (.complex .f64 x492002_3.1 x492002_3.2) := (blk_cell BK491.out 2).trans rfl; have hcz22_3 : wr.cell? ⟨gb491, 3, none⟩ = some (.complex .f64 x492003_3.1 x492003_3.2) := (blk_cell BK491.out 3).trans rfl; have hfz22_0 := blk_frozen BK491.out 0; have hfz22_1 := blk_frozen BK491.out 1; have hfz22_2 := blk_frozen BK491.out 2; have hfz22_3 := blk_frozen BK491.out 3)))
               go_roundg k3
               case measure => have := HK1.out; have := HJ1.out; have := HK3.out; omega
               case rel => exact ⟨(wrap64 (x5_3 + 1)), (x492000_3), (t496), (x492002_3), (x492003_3), (by first | rfl | (simp; done) | (simp [*]; done)), H', ⟨by have := HK1.out; have := HJ1.out; have := HK3.out; omega⟩, ⟨by (with_reducible repeat (first | refine blk_drewN ?_ _ | refine blk_drew ?_ | refine blk_alloc ?_ _)); refine blk_put (cs := #[.complex .f64 x492000_3.1 x492000_3.2, .complex .f64 x492001_3.1 x492001_3.2, .complex .f64 x492002_3.1 x492002_3.2, .complex .f64 x492003_3.1 x492003_3.2]) ?_ 1 _ rfl; (with_reducible repeat (first | refine blk_drewN ?_ _ | refine blk_drew ?_ | refine blk_alloc ?_ _)); exact BK491.out⟩, ⟨by repeat (first | (with_reducible first | exact HB.out | apply below_alloc | apply pw_below_drewN | apply below_drew1 | refine below_set ?_ GE491.out) | exact HB.out)⟩⟩
              ·rw [if_neg c21] at H
               have c21b0 : (x5_3 == 1) = false := beq_eq_false_iff_ne.mpr c21
               have c21b1 : (x5_3 != 1) = true := bne_iff_ne.mpr c21
               by_cases c23 : x5_3 = 2
               ·rw [if_pos c23] at H
                have c23b0 : (x5_3 == 2) = true := beq_iff_eq.mpr c23
                have c23b1 : (x5_3 != 2) = false := bne_eq_false_iff_eq.mpr c23
                have c23b2 : x5_3.toNat = 2 := by (have h_ : x5_3 = 2 := c23; rw [h_]; rfl)
                have c23b3 : (0 ≤ x5_3) = True := eq_true (by (have h_ : x5_3 = 2 := c23; omega))
                have c23b4 : (x5_3 < 4) = True := eq_true (by (have h_ : x5_3 = 2 := c23; omega))
                have c23b5 : wrap64 (x5_3 + 1) = x5_3 + 1 := by (have h_ : x5_3 = 2 := c23; unfold wrap64; omega)
                clear c23
                have H' := Aside0.mk H
                clear H; have p492 : 0 ≤ (x3_1 : Int) := of_decide_eq_true (by first | (with_reducible assumption) | assumption); have q492 : x3_1 < (l0.length : Int) := of_decide_eq_true (by first | (with_reducible assumption) | assumption)
                obtain ⟨ad492, e492, hx492_0, hx492_1, hx492_2, hx492_3, hx492_4, hx492_5, hx492_6, hx492_7, hx492_8, hx492_9⟩ := at_T26 HR0.out x3_1 p492 q492
                cases e492
                replace hx492_0 := (HB.out.cell (World.block_lt_of_cell? w _ hx492_0)).trans hx492_0
                replace hx492_1 := (HB.out.cell (World.block_lt_of_cell? w _ hx492_1)).trans hx492_1
                replace hx492_2 := (HB.out.cell (World.block_lt_of_cell? w _ hx492_2)).trans hx492_2
                replace hx492_3 := (HB.out.cell (World.block_lt_of_cell? w _ hx492_3)).trans hx492_3
                replace hx492_4 := (HB.out.cell (World.block_lt_of_cell? w _ hx492_4)).trans hx492_4
                replace hx492_5 := (HB.out.cell (World.block_lt_of_cell? w _ hx492_5)).trans hx492_5
                replace hx492_6 := (HB.out.cell (World.block_lt_of_cell? w _ hx492_6)).trans hx492_6
                replace hx492_7 := (HB.out.cell (World.block_lt_of_cell? w _ hx492_7)).trans hx492_7
                replace hx492_8 := (HB.out.cell (World.block_lt_of_cell? w _ hx492_8)).trans hx492_8
                replace hx492_9 := (HB.out.cell (World.block_lt_of_cell? w _ hx492_9)).trans hx492_9
                replace p492 := eq_true p492; replace q492 := eq_true q492
                go_wp2_with (first | (go_at_call 22; (with_reducible refine (arraslaw0_Within.calls ji11 20 t493 _ A12.out).mono ?_); rintro e w' ⟨rfl, ⟨nd, rfl⟩⟩; (try first | exact ⟨rfl, _, World.drewN_drewN _ _ _⟩ | exact ⟨rfl, _, Eq.trans (World.drewN_drewN _ _ _) (congrArg (World.drewN _) (Nat.add_assoc _ _ _))⟩); have p494 : 0 ≤ (x3_1 : Int) := of_decide_eq_true (by first | (with_reducible assumption) | assumption); have q494 : x3_1 < (l0.length : Int) := of_decide_eq_true (by first | (with_reducible assumption) | assumption); obtain ⟨ad494, e494, hx494_0, hx494_1, hx494_2, hx494_3, hx494_4, hx494_5, hx494_6, hx494_7, hx494_8, hx494_9⟩ := at_T26 HR0.out x3_1 p494 q494; obtain rfl : ad492 = ad494 := (by injection e494); replace hx494_0 := (HB.out.cell (World.block_lt_of_cell? w _ hx494_0)).trans hx494_0; replace hx494_1 := (HB.out.cell (World.block_lt_of_cell? w _ hx494_1)).trans hx494_1; replace hx494_2 := (HB.out.cell (World.block_lt_of_cell? w _ hx494_2)).trans hx494_2; replace hx494_3 := (HB.out.cell (World.block_lt_of_cell? w _ hx494_3)).trans hx494_3; replace hx494_4 := (HB.out.cell (World.block_lt_of_cell? w _ hx494_4)).trans hx494_4; replace hx494_5 := (HB.out.cell (World.block_lt_of_cell? w _ hx494_5)).trans hx494_5; replace hx494_6 := (HB.out.cell (World.block_lt_of_cell? w _ hx494_6)).trans hx494_6; replace hx494_7 := (HB.out.cell (World.block_lt_of_cell? w _ hx494_7)).trans hx494_7; replace hx494_8 := (HB.out.cell (World.block_lt_of_cell? w _ hx494_8)).trans hx494_8; replace hx494_9 := (HB.out.cell (World.block_lt_of_cell? w _ hx494_9)).trans hx494_9; replace p494 := eq_true p494; replace q494 := eq_true q494) | (go_at_call 22; (with_reducible refine (arraslaw0_Within.calls ji14 20 t495 _ A15.out).mono ?_); rintro e w' ⟨rfl, ⟨nd, rfl⟩⟩; (try first | exact ⟨rfl, _, World.drewN_drewN _ _ _⟩ | exact ⟨rfl, _, Eq.trans (World.drewN_drewN _ _ _) (congrArg (World.drewN _) (Nat.add_assoc _ _ _))⟩)) | (go_at_call 10; (with_reducible refine (point_Of.calls t493 t495 t496 t497 _ A16.out).mono ?_); rintro e w' ⟨rfl, ⟨nd, rfl⟩⟩; (try first | exact ⟨rfl, _, World.drewN_drewN _ _ _⟩ | exact ⟨rfl, _, Eq.trans (World.drewN_drewN _ _ _) (congrArg (World.drewN _) (Nat.add_assoc _ _ _))⟩)) | (go_at_call 17; (with_reducible refine (arraslaw3_num.calls t497 t498 _ A17.out).mono ?_); rintro e w' ⟨rfl, ⟨nd, rfl⟩⟩; (try first | exact ⟨rfl, _, World.drewN_drewN _ _ _⟩ | exact ⟨rfl, _, Eq.trans (World.drewN_drewN _ _ _) (congrArg (World.drewN _) (Nat.add_assoc _ _ _))⟩); have hcz24_0 : wr.cell? ⟨gb491, 0, none⟩ = some (.complex .f64 x492000_3.1 x492000_3.2) := (blk_cell BK491.out 0).trans rfl; have hcz24_1 : wr.cell? ⟨gb491, 1, none⟩ = some (.complex .f64 x492001_3.1 x492001_3.2) := (blk_cell BK491.out 1).trans rfl; have hcz24_2 : wr.cell? ⟨gb491, 2, none⟩ = some (.complex .f64 x492002_3.1 x492002_3.2) := (blk_cell BK491.out 2).trans rfl; have hcz24_3 : wr.cell? ⟨gb491, 3, none⟩ = some (.complex .f64 x492003_3.1 x492003_3.2) := (blk_cell BK491.out 3).trans rfl; have hfz24_0 := blk_frozen BK491.out 0; have hfz24_1 := blk_frozen BK491.out 1; have hfz24_2 := blk_frozen BK491.out 2; have hfz24_3 := blk_frozen BK491.out 3))
                repeat (go_quiet (first | (go_at_call 22; (with_reducible refine (arraslaw0_Within.calls ji11 20 t493 _ A12.out).mono ?_); rintro e w' ⟨rfl, ⟨nd, rfl⟩⟩; (try first | exact ⟨rfl, _, World.drewN_drewN _ _ _⟩ | exact ⟨rfl, _, Eq.trans (World.drewN_drewN _ _ _) (congrArg (World.drewN _) (Nat.add_assoc _ _ _))⟩); have p494 : 0 ≤ (x3_1 : Int) := of_decide_eq_true (by first | (with_reducible assumption) | assumption); have q494 : x3_1 < (l0.length : Int) := of_decide_eq_true (by first | (with_reducible assumption) | assumption); obtain ⟨ad494, e494, hx494_0, hx494_1, hx494_2, hx494_3, hx494_4, hx494_5, hx494_6, hx494_7, hx494_8, hx494_9⟩ := at_T26 HR0.out x3_1 p494 q494; obtain rfl : ad492 = ad494 := (by injection e494); replace hx494_0 := (HB.out.cell (World.block_lt_of_cell? w _ hx494_0)).trans hx494_0; replace hx494_1 := (HB.out.cell (World.block_lt_of_cell? w _ hx494_1)).trans hx494_1; replace hx494_2 := (HB.out.cell (World.block_lt_of_cell? w _ hx494_2)).trans hx494_2; replace hx494_3 := (HB.out.cell (World.block_lt_of_cell? w _ hx494_3)).trans hx494_3; replace hx494_4 := (HB.out.cell (World.block_lt_of_cell? w _ hx494_4)).trans hx494_4; replace hx494_5 := (HB.out.cell (World.block_lt_of_cell? w _ hx494_5)).trans hx494_5; replace hx494_6 := (HB.out.cell (World.block_lt_of_cell? w _ hx494_6)).trans hx494_6; replace hx494_7 := (HB.out.cell (World.block_lt_of_cell? w _ hx494_7)).trans hx494_7; replace hx494_8 := (HB.out.cell (World.block_lt_of_cell? w _ hx494_8)).trans hx494_8; replace hx494_9 := (HB.out.cell (World.block_lt_of_cell? w _ hx494_9)).trans hx494_9; replace p494 := eq_true p494; replace q494 := eq_true q494) | (go_at_call 22; (with_reducible refine (arraslaw0_Within.calls ji14 20 t495 _ A15.out).mono ?_); rintro e w' ⟨rfl, ⟨nd, rfl⟩⟩; (try first | exact ⟨rfl, _, World.drewN_drewN _ _ _⟩ | exact ⟨rfl, _, Eq.trans (World.drewN_drewN _ _ _) (congrArg (World.drewN _) (Nat.add_assoc _ _ _))⟩)) | (go_at_call 10; (with_reducible refine (point_Of.calls t493 t495 t496 t497 _ A16.out).mono ?_); rintro e w' ⟨rfl, ⟨nd, rfl⟩⟩; (try first | exact ⟨rfl, _, World.drewN_drewN _ _ _⟩ | exact ⟨rfl, _, Eq.trans (World.drewN_drewN _ _ _) (congrArg (World.drewN _) (Nat.add_assoc _ _ _))⟩)) | (go_at_call 17; (with_reducible refine (arraslaw3_num.calls t497 t498 _ A17.out).mono ?_); rintro e w' ⟨rfl, ⟨nd, rfl⟩⟩; (try first | exact ⟨rfl, _, World.drewN_drewN _ _ _⟩ | exact ⟨rfl, _, Eq.trans (World.drewN_drewN _ _ _) (congrArg (World.drewN _) (Nat.add_assoc _ _ _))⟩); have hcz24_0 : wr.cell? ⟨gb491, 0, none⟩ = some (.complex .f64 x492000_3.1 x492000_3.2) := (blk_cell BK491.out 0).trans rfl; have hcz24_1 : wr.cell? ⟨gb491, 1, none⟩ = some (.complex .f64 x492001_3.1 x492001_3.2) := (blk_cell BK491.out 1).trans rfl; have hcz24_2 : wr.cell? ⟨gb491, 2, none⟩ = some (.complex .f64 x492002_3.1 x492002_3.2) := (blk_cell BK491.out 2).trans rfl; have hcz24_3 : wr.cell? ⟨gb491, 3, none⟩ = some (.complex .f64 x492003_3.1 x492003_3.2) := (blk_cell BK491.out 3).trans rfl; have hfz24_0 := blk_frozen BK491.out 0; have hfz24_1 := blk_frozen BK491.out 1; have hfz24_2 := blk_frozen BK491.out 2; have hfz24_3 := blk_frozen BK491.out 3)); try go_wp2_with (first | (go_at_call 22; (with_reducible refine (arraslaw0_Within.calls ji11 20 t493 _ A12.out).mono ?_); rintro e w' ⟨rfl, ⟨nd, rfl⟩⟩; (try first | exact ⟨rfl, _, World.drewN_drewN _ _ _⟩ | exact ⟨rfl, _, Eq.trans (World.drewN_drewN _ _ _) (congrArg (World.drewN _) (Nat.add_assoc _ _ _))⟩); have p494 : 0 ≤ (x3_1 : Int) := of_decide_eq_true (by first | (with_reducible assumption) | assumption); have q494 : x3_1 < (l0.length : Int) := of_decide_eq_true (by first | (with_reducible assumption) | assumption); obtain ⟨ad494, e494, hx494_0, hx494_1, hx494_2, hx494_3, hx494_4, hx494_5, hx494_6, hx494_7, hx494_8, hx494_9⟩ := at_T26 HR0.out x3_1 p494 q494; obtain rfl : ad492 = ad494 := (by injection e494); replace hx494_0 := (HB.out.cell (World.block_lt_of_cell? w _ hx494_0)).trans hx494_0; replace hx494_1 := (HB.out.cell (World.block_lt_of_cell? w _ hx494_1)).trans hx494_1; replace hx494_2 := (HB.out.cell (World.block_lt_of_cell? w _ hx494_2)).trans hx494_2; replace hx494_3 := (HB.out.cell (World.block_lt_of_cell? w _ hx494_3)).trans hx494_3; replace hx494_4 := (HB.out.cell (World.block_lt_of_cell? w _ hx494_4)).trans hx494_4; replace hx494_5 := (HB.out.cell (World.block_lt_of_cell? w _ hx494_5)).trans hx494_5; replace hx494_6 := (HB.out.cell (World.block_lt_of_cell? w _ hx494_6)).trans hx494_6; replace hx494_7 := (HB.out.cell (World.block_lt_of_cell? w _ hx494_7)).trans hx494_7; replace hx494_8 := (HB.out.cell (World.block_lt_of_cell? w _ hx494_8)).trans hx494_8; replace hx494_9 := (HB.out.cell (World.block_lt_of_cell? w _ hx494_9)).trans hx494_9; replace p494 := eq_true p494; replace q494 := eq_true q494) | (go_at_call 22; (with_reducible refine (arraslaw0_Within.calls ji14 20 t495 _ A15.out).mono ?_); rintro e w' ⟨rfl, ⟨nd, rfl⟩⟩; (try first | exact ⟨rfl, _, World.drewN_drewN _ _ _⟩ | exact ⟨rfl, _, Eq.trans (World.drewN_drewN _ _ _) (congrArg (World.drewN _) (Nat.add_assoc _ _ _))⟩)) | (go_at_call 10; (with_reducible refine (point_Of.calls t493 t495 t496 t497 _ A16.out).mono ?_); rintro e w' ⟨rfl, ⟨nd, rfl⟩⟩; (try first | exact ⟨rfl, _, World.drewN_drewN _ _ _⟩ | exact ⟨rfl, _, Eq.trans (World.drewN_drewN _ _ _) (congrArg (World.drewN _) (Nat.add_assoc _ _ _))⟩)) | (go_at_call 17; (with_reducible refine (arraslaw3_num.calls t497 t498 _ A17.out).mono ?_); rintro e w' ⟨rfl, ⟨nd, rfl⟩⟩; (try first | exact ⟨rfl, _, World.drewN_drewN _ _ _⟩ | exact ⟨rfl, _, Eq.trans (World.drewN_drewN _ _ _) (congrArg (World.drewN _) (Nat.add_assoc _ _ _))⟩); have hcz24_0 : wr.cell? ⟨gb491, 0, none⟩ = some (.complex .f64 x492000_3.1 x492000_3.2) := (blk_cell BK491.out 0).trans rfl; have hcz24_1 : wr.cell? ⟨gb491, 1, none⟩ = some (.complex .f64 x492001_3.1 x492001_3.2) := (blk_cell BK491.out 1).trans rfl; have hcz24_2 : wr.cell? ⟨gb491, 2, none⟩ = some (.complex .f64 x492002_3.1 x492002_3.2) := (blk_cell BK491.out 2).trans rfl; have hcz24_3 : wr.cell? ⟨gb491, 3, none⟩ = some (.complex .f64 x492003_3.1 x492003_3.2) := (blk_cell BK491.out 3).trans rfl; have hfz24_0 := blk_frozen BK491.out 0; have hfz24_1 := blk_frozen BK491.out 1; have hfz24_2 := blk_frozen BK491.out 2; have hfz24_3 := blk_frozen BK491.out 3)))
                go_roundg k3
                case measure => have := HK1.out; have := HJ1.out; have := HK3.out; omega
                case rel => exact ⟨(wrap64 (x5_3 + 1)), (x492000_3), (x492001_3), (t496), (x492003_3), (by first | rfl | (simp; done) | (simp [*]; done)), H', ⟨by have := HK1.out; have := HJ1.out; have := HK3.out; omega⟩, ⟨by (with_reducible repeat (first | refine blk_drewN ?_ _ | refine blk_drew ?_ | refine blk_alloc ?_ _)); refine blk_put (cs := #[.complex .f64 x492000_3.1 x492000_3.2, .complex .f64 x492001_3.1 x492001_3.2, .complex .f64 x492002_3.1 x492002_3.2, .complex .f64 x492003_3.1 x492003_3.2]) ?_ 2 _ rfl; (with_reducible repeat (first | refine blk_drewN ?_ _ | refine blk_drew ?_ | refine blk_alloc ?_ _)); exact BK491.out⟩, ⟨by repeat (first | (with_reducible first | exact HB.out | apply below_alloc | apply pw_below_drewN | apply below_drew1 | refine below_set ?_ GE491.out) | exact HB.out)⟩⟩
               ·rw [if_neg c23] at H
                have c23b0 : (x5_3 == 2) = false := beq_eq_false_iff_ne.mpr c23
                have c23b1 : (x5_3 != 2) = true := bne_iff_ne.mpr c23
                by_cases c25 : x5_3 = 3
                ·rw [if_pos c25] at H
                 have c25b0 : (x5_3 == 3) = true := beq_iff_eq.mpr c25
                 have c25b1 : (x5_3 != 3) = false := bne_eq_false_iff_eq.mpr c25
                 have c25b2 : x5_3.toNat = 3 := by (have h_ : x5_3 = 3 := c25; rw [h_]; rfl)
                 have c25b3 : (0 ≤ x5_3) = True := eq_true (by (have h_ : x5_3 = 3 := c25; omega))
                 have c25b4 : (x5_3 < 4) = True := eq_true (by (have h_ : x5_3 = 3 := c25; omega))
                 have c25b5 : wrap64 (x5_3 + 1) = x5_3 + 1 := by (have h_ : x5_3 = 3 := c25; unfold wrap64; omega)
                 clear c25
                 have H' := Aside0.mk H
                 clear H; have p492 : 0 ≤ (x3_1 : Int) := of_decide_eq_true (by first | (with_reducible assumption) | assumption); have q492 : x3_1 < (l0.length : Int) := of_decide_eq_true (by first | (with_reducible assumption) | assumption)
                 obtain ⟨ad492, e492, hx492_0, hx492_1, hx492_2, hx492_3, hx492_4, hx492_5, hx492_6, hx492_7, hx492_8, hx492_9⟩ := at_T26 HR0.out x3_1 p492 q492
                 cases e492
                 replace hx492_0 := (HB.out.cell (World.block_lt_of_cell? w _ hx492_0)).trans hx492_0
                 replace hx492_1 := (HB.out.cell (World.block_lt_of_cell? w _ hx492_1)).trans hx492_1
                 replace hx492_2 := (HB.out.cell (World.block_lt_of_cell? w _ hx492_2)).trans hx492_2
                 replace hx492_3 := (HB.out.cell (World.block_lt_of_cell? w _ hx492_3)).trans hx492_3
                 replace hx492_4 := (HB.out.cell (World.block_lt_of_cell? w _ hx492_4)).trans hx492_4
                 replace hx492_5 := (HB.out.cell (World.block_lt_of_cell? w _ hx492_5)).trans hx492_5
                 replace hx492_6 := (HB.out.cell (World.block_lt_of_cell? w _ hx492_6)).trans hx492_6
                 replace hx492_7 := (HB.out.cell (World.block_lt_of_cell? w _ hx492_7)).trans hx492_7
                 replace hx492_8 := (HB.out.cell (World.block_lt_of_cell? w _ hx492_8)).trans hx492_8
                 replace hx492_9 := (HB.out.cell (World.block_lt_of_cell? w _ hx492_9)).trans hx492_9
                 replace p492 := eq_true p492; replace q492 := eq_true q492
                 go_wp2_with (first | (go_at_call 22; (with_reducible refine (arraslaw0_Within.calls ji11 20 t493 _ A12.out).mono ?_); rintro e w' ⟨rfl, ⟨nd, rfl⟩⟩; (try first | exact ⟨rfl, _, World.drewN_drewN _ _ _⟩ | exact ⟨rfl, _, Eq.trans (World.drewN_drewN _ _ _) (congrArg (World.drewN _) (Nat.add_assoc _ _ _))⟩); have p494 : 0 ≤ (x3_1 : Int) := of_decide_eq_true (by first | (with_reducible assumption) | assumption); have q494 : x3_1 < (l0.length : Int) := of_decide_eq_true (by first | (with_reducible assumption) | assumption); obtain ⟨ad494, e494, hx494_0, hx494_1, hx494_2, hx494_3, hx494_4, hx494_5, hx494_6, hx494_7, hx494_8, hx494_9⟩ := at_T26 HR0.out x3_1 p494 q494; obtain rfl : ad492 = ad494 := (by injection e494); replace hx494_0 := (HB.out.cell (World.block_lt_of_cell? w _ hx494_0)).trans hx494_0; replace hx494_1 := (HB.out.cell (World.block_lt_of_cell? w _ hx494_1)).trans hx494_1; replace hx494_2 := (HB.out.cell (World.block_lt_of_cell? w _ hx494_2)).trans hx494_2; replace hx494_3 := (HB.out.cell (World.block_lt_of_cell? w _ hx494_3)).trans hx494_3; replace hx494_4 := (HB.out.cell (World.block_lt_of_cell? w _ hx494_4)).trans hx494_4; replace hx494_5 := (HB.out.cell (World.block_lt_of_cell? w _ hx494_5)).trans hx494_5; replace hx494_6 := (HB.out.cell (World.block_lt_of_cell? w _ hx494_6)).trans hx494_6; replace hx494_7 := (HB.out.cell (World.block_lt_of_cell? w _ hx494_7)).trans hx494_7; replace hx494_8 := (HB.out.cell (World.block_lt_of_cell? w _ hx494_8)).trans hx494_8; replace hx494_9 := (HB.out.cell (World.block_lt_of_cell? w _ hx494_9)).trans hx494_9; replace p494 := eq_true p494; replace q494 := eq_true q494) | (go_at_call 22; (with_reducible refine (arraslaw0_Within.calls ji14 20 t495 _ A15.out).mono ?_); rintro e w' ⟨rfl, ⟨nd, rfl⟩⟩; (try first | exact ⟨rfl, _, World.drewN_drewN _ _ _⟩ | exact ⟨rfl, _, Eq.trans (World.drewN_drewN _ _ _) (congrArg (World.drewN _) (Nat.add_assoc _ _ _))⟩)) | (go_at_call 10; (with_reducible refine (point_Of.calls t493 t495 t496 t497 _ A16.out).mono ?_); rintro e w' ⟨rfl, ⟨nd, rfl⟩⟩; (try first | exact ⟨rfl, _, World.drewN_drewN _ _ _⟩ | exact ⟨rfl, _, Eq.trans (World.drewN_drewN _ _ _) (congrArg (World.drewN _) (Nat.add_assoc _ _ _))⟩)) | (go_at_call 17; (with_reducible refine (arraslaw3_num.calls t497 t498 _ A17.out).mono ?_); rintro e w' ⟨rfl, ⟨nd, rfl⟩⟩; (try first | exact ⟨rfl, _, World.drewN_drewN _ _ _⟩ | exact ⟨rfl, _, Eq.trans (World.drewN_drewN _ _ _) (congrArg (World.drewN _) (Nat.add_assoc _ _ _))⟩); have hcz26_0 : wr.cell? ⟨gb491, 0, none⟩ = some (.complex .f64 x492000_3.1 x492000_3.2) := (blk_cell BK491.out 0).trans rfl; have hcz26_1 : wr.cell? ⟨gb491, 1, none⟩ = some (.complex .f64 x492001_3.1 x492001_3.2) := (blk_cell BK491.out 1).trans rfl; have hcz26_2 : wr.cell? ⟨gb491, 2, none⟩ = some (.complex .f64 x492002_3.1 x492002_3.2) := (blk_cell BK491.out 2).trans rfl; have hcz26_3 : wr.cell? ⟨gb491, 3, none⟩ = some (.complex .f64 x492003_3.1 x492003_3.2) := (blk_cell BK491.out 3).trans rfl; have hfz26_0 := blk_frozen BK491.out 0; have hfz26_1 := blk_frozen BK491.out 1; have hfz26_2 := blk_frozen BK491.out 2; have hfz26_3 := blk_frozen BK491.out 3))
                 repeat (go_quiet (first | (go_at_call 22; (with_reducible refine (arraslaw0_Within.calls ji11 20 t493 _ A12.out).mono ?_); rintro e w' ⟨rfl, ⟨nd, rfl⟩⟩; (try first | exact ⟨rfl, _, World.drewN_drewN _ _ _⟩ | exact ⟨rfl, _, Eq.trans (World.drewN_drewN _ _ _) (congrArg (World.drewN _) (Nat.add_assoc _ _ _))⟩); have p494 : 0 ≤ (x3_1 : Int) := of_decide_eq_true (by first | (with_reducible assumption) | assumption); have q494 : x3_1 < (l0.length : Int) := of_decide_eq_true (by first | (with_reducible assumption) | assumption); obtain ⟨ad494, e494, hx494_0, hx494_1, hx494_2, hx494_3, hx494_4, hx494_5, hx494_6, hx494_7, hx494_8, hx494_9⟩ := at_T26 HR0.out x3_1 p494 q494; obtain rfl : ad492 = ad494 := (by injection e494); replace hx494_0 := (HB.out.cell (World.block_lt_of_cell? w _ hx494_0)).trans hx494_0; replace hx494_1 := (HB.out.cell (World.block_lt_of_cell? w _ hx494_1)).trans hx494_1; replace hx494_2 := (HB.out.cell (World.block_lt_of_cell? w _ hx494_2)).trans hx494_2; replace hx494_3 := (HB.out.cell (World.block_lt_of_cell? w _ hx494_3)).trans hx494_3; replace hx494_4 := (HB.out.cell (World.block_lt_of_cell? w _ hx494_4)).trans hx494_4; replace hx494_5 := (HB.out.cell (World.block_lt_of_cell? w _ hx494_5)).trans hx494_5; replace hx494_6 := (HB.out.cell (World.block_lt_of_cell? w _ hx494_6)).trans hx494_6; replace hx494_7 := (HB.out.cell (World.block_lt_of_cell? w _ hx494_7)).trans hx494_7; replace hx494_8 := (HB.out.cell (World.block_lt_of_cell? w _ hx494_8)).trans hx494_8; replace hx494_9 := (HB.out.cell (World.block_lt_of_cell? w _ hx494_9)).trans hx494_9; replace p494 := eq_true p494; replace q494 := eq_true q494) | (go_at_call 22; (with_reducible refine (arraslaw0_Within.calls ji14 20 t495 _ A15.out).mono ?_); rintro e w' ⟨rfl, ⟨nd, rfl⟩⟩; (try first | exact ⟨rfl, _, World.drewN_drewN _ _ _⟩ | exact ⟨rfl, _, Eq.trans (World.drewN_drewN _ _ _) (congrArg (World.drewN _) (Nat.add_assoc _ _ _))⟩)) | (go_at_call 10; (with_reducible refine (point_Of.calls t493 t495 t496 t497 _ A16.out).mono ?_); rintro e w' ⟨rfl, ⟨nd, rfl⟩⟩; (try first | exact ⟨rfl, _, World.drewN_drewN _ _ _⟩ | exact ⟨rfl, _, Eq.trans (World.drewN_drewN _ _ _) (congrArg (World.drewN _) (Nat.add_assoc _ _ _))⟩)) | (go_at_call 17; (with_reducible refine (arraslaw3_num.calls t497 t498 _ A17.out).mono ?_); rintro e w' ⟨rfl, ⟨nd, rfl⟩⟩; (try first | exact ⟨rfl, _, World.drewN_drewN _ _ _⟩ | exact ⟨rfl, _, Eq.trans (World.drewN_drewN _ _ _) (congrArg (World.drewN _) (Nat.add_assoc _ _ _))⟩); have hcz26_0 : wr.cell? ⟨gb491, 0, none⟩ = some (.complex .f64 x492000_3.1 x492000_3.2) := (blk_cell BK491.out 0).trans rfl; have hcz26_1 : wr.cell? ⟨gb491, 1, none⟩ = some (.complex .f64 x492001_3.1 x492001_3.2) := (blk_cell BK491.out 1).trans rfl; have hcz26_2 : wr.cell? ⟨gb491, 2, none⟩ = some (.complex .f64 x492002_3.1 x492002_3.2) := (blk_cell BK491.out 2).trans rfl; have hcz26_3 : wr.cell? ⟨gb491, 3, none⟩ = some (.complex .f64 x492003_3.1 x492003_3.2) := (blk_cell BK491.out 3).trans rfl; have hfz26_0 := blk_frozen BK491.out 0; have hfz26_1 := blk_frozen BK491.out 1; have hfz26_2 := blk_frozen BK491.out 2; have hfz26_3 := blk_frozen BK491.out 3)); try go_wp2_with (first | (go_at_call 22; (with_reducible refine (arraslaw0_Within.calls ji11 20 t493 _ A12.out).mono ?_); rintro e w' ⟨rfl, ⟨nd, rfl⟩⟩; (try first | exact ⟨rfl, _, World.drewN_drewN _ _ _⟩ | exact ⟨rfl, _, Eq.trans (World.drewN_drewN _ _ _) (congrArg (World.drewN _) (Nat.add_assoc _ _ _))⟩); have p494 : 0 ≤ (x3_1 : Int) := of_decide_eq_true (by first | (with_reducible assumption) | assumption); have q494 : x3_1 < (l0.length : Int) := of_decide_eq_true (by first | (with_reducible assumption) | assumption); obtain ⟨ad494, e494, hx494_0, hx494_1, hx494_2, hx494_3, hx494_4, hx494_5, hx494_6, hx494_7, hx494_8, hx494_9⟩ := at_T26 HR0.out x3_1 p494 q494; obtain rfl : ad492 = ad494 := (by injection e494); replace hx494_0 := (HB.out.cell (World.block_lt_of_cell? w _ hx494_0)).trans hx494_0; replace hx494_1 := (HB.out.cell (World.block_lt_of_cell? w _ hx494_1)).trans hx494_1; replace hx494_2 := (HB.out.cell (World.block_lt_of_cell? w _ hx494_2)).trans hx494_2; replace hx494_3 := (HB.out.cell (World.block_lt_of_cell? w _ hx494_3)).trans hx494_3; replace hx494_4 := (HB.out.cell (World.block_lt_of_cell? w _ hx494_4)).trans hx494_4; replace hx494_5 := (HB.out.cell (World.block_lt_of_cell? w _ hx494_5)).trans hx494_5; replace hx494_6 := (HB.out.cell (World.block_lt_of_cell? w _ hx494_6)).trans hx494_6; replace hx494_7 := (HB.out.cell (World.block_lt_of_cell? w _ hx494_7)).trans hx494_7; replace hx494_8 := (HB.out.cell (World.block_lt_of_cell? w _ hx494_8)).trans hx494_8; replace hx494_9 := (HB.out.cell (World.block_lt_of_cell? w _ hx494_9)).trans hx494_9; replace p494 := eq_true p494; replace q494 := eq_true q494) | (go_at_call 22; (with_reducible refine (arraslaw0_Within.calls ji14 20 t495 _ A15.out).mono ?_); rintro e w' ⟨rfl, ⟨nd, rfl⟩⟩; (try first | exact ⟨rfl, _, World.drewN_drewN _ _ _⟩ | exact ⟨rfl, _, Eq.trans (World.drewN_drewN _ _ _) (congrArg (World.drewN _) (Nat.add_assoc _ _ _))⟩)) | (go_at_call 10; (with_reducible refine (point_Of.calls t493 t495 t496 t497 _ A16.out).mono ?_); rintro e w' ⟨rfl, ⟨nd, rfl⟩⟩; (try first | exact ⟨rfl, _, World.drewN_drewN _ _ _⟩ | exact ⟨rfl, _, Eq.trans (World.drewN_drewN _ _ _) (congrArg (World.drewN _) (Nat.add_assoc _ _ _))⟩)) | (go_at_call 17; (with_reducible refine (arraslaw3_num.calls t497 t498 _ A17.out).mono ?_); rintro e w' ⟨rfl, ⟨nd, rfl⟩⟩; (try first | exact ⟨rfl, _, World.drewN_drewN _ _ _⟩ | exact ⟨rfl, _, Eq.trans (World.drewN_drewN _ _ _) (congrArg (World.drewN _) (Nat.add_assoc _ _ _))⟩); have hcz26_0 : wr.cell? ⟨gb491, 0, none⟩ = some (.complex .f64 x492000_3.1 x492000_3.2) := (blk_cell BK491.out 0).trans rfl; have hcz26_1 : wr.cell? ⟨gb491, 1, none⟩ = some (.complex .f64 x492001_3.1 x492001_3.2) := (blk_cell BK491.out 1).trans rfl; have hcz26_2 : wr.cell? ⟨gb491, 2, none⟩ = some (.complex .f64 x492002_3.1 x492002_3.2) := (blk_cell BK491.out 2).trans rfl; have hcz26_3 : wr.cell? ⟨gb491, 3, none⟩ = some (.complex .f64 x492003_3.1 x492003_3.2) := (blk_cell BK491.out 3).trans rfl; have hfz26_0 := blk_frozen BK491.out 0; have hfz26_1 := blk_frozen BK491.out 1; have hfz26_2 := blk_frozen BK491.out 2; have hfz26_3 := blk_frozen BK491.out 3)))
                 go_roundg k3
                 case measure => have := HK1.out; have := HJ1.out; have := HK3.out; omega
                 case rel => exact ⟨(wrap64 (x5_3 + 1)), (x492000_3), (x492001_3), (x492002_3), (t496), (by first | rfl | (simp; done) | (simp [*]; done)), H', ⟨by have := HK1.out; have := HJ1.out; have := HK3.out; omega⟩, ⟨by (with_reducible repeat (first | refine blk_drewN ?_ _ | refine blk_drew ?_ | refine blk_alloc ?_ _)); refine blk_put (cs := #[.complex .f64 x492000_3.1 x492000_3.2, .complex .f64 x492001_3.1 x492001_3.2, .complex .f64 x492002_3.1 x492002_3.2, .complex .f64 x492003_3.1 x492003_3.2]) ?_ 3 _ rfl; (with_reducible repeat (first | refine blk_drewN ?_ _ | refine blk_drew ?_ | refine blk_alloc ?_ _)); exact BK491.out⟩, ⟨by repeat (first | (with_reducible first | exact HB.out | apply below_alloc | apply pw_below_drewN | apply below_drew1 | refine below_set ?_ GE491.out) | exact HB.out)⟩⟩
                ·rw [if_neg c25] at H
                 exact absurd H (by simp)
            ·rw [if_neg c18] at H
             have c18b0 : (t498 == 0) = false := beq_eq_false_iff_ne.mpr c18
             have c18b1 : (t498 != 0) = true := bne_iff_ne.mpr c18
             obtain rfl := Option.some.inj H
             have p492 : 0 ≤ (x3_1 : Int) := of_decide_eq_true (by first | (with_reducible assumption) | assumption); have q492 : x3_1 < (l0.length : Int) := of_decide_eq_true (by first | (with_reducible assumption) | assumption)
             obtain ⟨ad492, e492, hx492_0, hx492_1, hx492_2, hx492_3, hx492_4, hx492_5, hx492_6, hx492_7, hx492_8, hx492_9⟩ := at_T26 HR0.out x3_1 p492 q492
             cases e492
             replace hx492_0 := (HB.out.cell (World.block_lt_of_cell? w _ hx492_0)).trans hx492_0
             replace hx492_1 := (HB.out.cell (World.block_lt_of_cell? w _ hx492_1)).trans hx492_1
             replace hx492_2 := (HB.out.cell (World.block_lt_of_cell? w _ hx492_2)).trans hx492_2
             replace hx492_3 := (HB.out.cell (World.block_lt_of_cell? w _ hx492_3)).trans hx492_3
             replace hx492_4 := (HB.out.cell (World.block_lt_of_cell? w _ hx492_4)).trans hx492_4
             replace hx492_5 := (HB.out.cell (World.block_lt_of_cell? w _ hx492_5)).trans hx492_5
             replace hx492_6 := (HB.out.cell (World.block_lt_of_cell? w _ hx492_6)).trans hx492_6
             replace hx492_7 := (HB.out.cell (World.block_lt_of_cell? w _ hx492_7)).trans hx492_7
             replace hx492_8 := (HB.out.cell (World.block_lt_of_cell? w _ hx492_8)).trans hx492_8
             replace hx492_9 := (HB.out.cell (World.block_lt_of_cell? w _ hx492_9)).trans hx492_9
             replace p492 := eq_true p492; replace q492 := eq_true q492
             go_wp2_with (first | (go_at_call 22; (with_reducible refine (arraslaw0_Within.calls ji11 20 t493 _ A12.out).mono ?_); rintro e w' ⟨rfl, ⟨nd, rfl⟩⟩; (try first | exact ⟨rfl, _, World.drewN_drewN _ _ _⟩ | exact ⟨rfl, _, Eq.trans (World.drewN_drewN _ _ _) (congrArg (World.drewN _) (Nat.add_assoc _ _ _))⟩); have p494 : 0 ≤ (x3_1 : Int) := of_decide_eq_true (by first | (with_reducible assumption) | assumption); have q494 : x3_1 < (l0.length : Int) := of_decide_eq_true (by first | (with_reducible assumption) | assumption); obtain ⟨ad494, e494, hx494_0, hx494_1, hx494_2, hx494_3, hx494_4, hx494_5, hx494_6, hx494_7, hx494_8, hx494_9⟩ := at_T26 HR0.out x3_1 p494 q494; obtain rfl : ad492 = ad494 := (by injection e494); replace hx494_0 := (HB.out.cell (World.block_lt_of_cell? w _ hx494_0)).trans hx494_0; replace hx494_1 := (HB.out.cell (World.block_lt_of_cell? w _ hx494_1)).trans hx494_1; replace hx494_2 := (HB.out.cell (World.block_lt_of_cell? w _ hx494_2)).trans hx494_2; replace hx494_3 := (HB.out.cell (World.block_lt_of_cell? w _ hx494_3)).trans hx494_3; replace hx494_4 := (HB.out.cell (World.block_lt_of_cell? w _ hx494_4)).trans hx494_4; replace hx494_5 := (HB.out.cell (World.block_lt_of_cell? w _ hx494_5)).trans hx494_5; replace hx494_6 := (HB.out.cell (World.block_lt_of_cell? w _ hx494_6)).trans hx494_6; replace hx494_7 := (HB.out.cell (World.block_lt_of_cell? w _ hx494_7)).trans hx494_7; replace hx494_8 := (HB.out.cell (World.block_lt_of_cell? w _ hx494_8)).trans hx494_8; replace hx494_9 := (HB.out.cell (World.block_lt_of_cell? w _ hx494_9)).trans hx494_9; replace p494 := eq_true p494; replace q494 := eq_true q494) | (go_at_call 22; (with_reducible refine (arraslaw0_Within.calls ji14 20 t495 _ A15.out).mono ?_); rintro e w' ⟨rfl, ⟨nd, rfl⟩⟩; (try first | exact ⟨rfl, _, World.drewN_drewN _ _ _⟩ | exact ⟨rfl, _, Eq.trans (World.drewN_drewN _ _ _) (congrArg (World.drewN _) (Nat.add_assoc _ _ _))⟩)) | (go_at_call 10; (with_reducible refine (point_Of.calls t493 t495 t496 t497 _ A16.out).mono ?_); rintro e w' ⟨rfl, ⟨nd, rfl⟩⟩; (try first | exact ⟨rfl, _, World.drewN_drewN _ _ _⟩ | exact ⟨rfl, _, Eq.trans (World.drewN_drewN _ _ _) (congrArg (World.drewN _) (Nat.add_assoc _ _ _))⟩)) | (go_at_call 17; (with_reducible refine (arraslaw3_num.calls t497 t498 _ A17.out).mono ?_); rintro e w' ⟨rfl, ⟨nd, rfl⟩⟩; (try first | exact ⟨rfl, _, World.drewN_drewN _ _ _⟩ | exact ⟨rfl, _, Eq.trans (World.drewN_drewN _ _ _) (congrArg (World.drewN _) (Nat.add_assoc _ _ _))⟩)))
             repeat (go_quiet (first | (go_at_call 22; (with_reducible refine (arraslaw0_Within.calls ji11 20 t493 _ A12.out).mono ?_); rintro e w' ⟨rfl, ⟨nd, rfl⟩⟩; (try first | exact ⟨rfl, _, World.drewN_drewN _ _ _⟩ | exact ⟨rfl, _, Eq.trans (World.drewN_drewN _ _ _) (congrArg (World.drewN _) (Nat.add_assoc _ _ _))⟩); have p494 : 0 ≤ (x3_1 : Int) := of_decide_eq_true (by first | (with_reducible assumption) | assumption); have q494 : x3_1 < (l0.length : Int) := of_decide_eq_true (by first | (with_reducible assumption) | assumption); obtain ⟨ad494, e494, hx494_0, hx494_1, hx494_2, hx494_3, hx494_4, hx494_5, hx494_6, hx494_7, hx494_8, hx494_9⟩ := at_T26 HR0.out x3_1 p494 q494; obtain rfl : ad492 = ad494 := (by injection e494); replace hx494_0 := (HB.out.cell (World.block_lt_of_cell? w _ hx494_0)).trans hx494_0; replace hx494_1 := (HB.out.cell (World.block_lt_of_cell? w _ hx494_1)).trans hx494_1; replace hx494_2 := (HB.out.cell (World.block_lt_of_cell? w _ hx494_2)).trans hx494_2; replace hx494_3 := (HB.out.cell (World.block_lt_of_cell? w _ hx494_3)).trans hx494_3; replace hx494_4 := (HB.out.cell (World.block_lt_of_cell? w _ hx494_4)).trans hx494_4; replace hx494_5 := (HB.out.cell (World.block_lt_of_cell? w _ hx494_5)).trans hx494_5; replace hx494_6 := (HB.out.cell (World.block_lt_of_cell? w _ hx494_6)).trans hx494_6; replace hx494_7 := (HB.out.cell (World.block_lt_of_cell? w _ hx494_7)).trans hx494_7; replace hx494_8 := (HB.out.cell (World.block_lt_of_cell? w _ hx494_8)).trans hx494_8; replace hx494_9 := (HB.out.cell (World.block_lt_of_cell? w _ hx494_9)).trans hx494_9; replace p494 := eq_true p494; replace q494 := eq_true q494) | (go_at_call 22; (with_reducible refine (arraslaw0_Within.calls ji14 20 t495 _ A15.out).mono ?_); rintro e w' ⟨rfl, ⟨nd, rfl⟩⟩; (try first | exact ⟨rfl, _, World.drewN_drewN _ _ _⟩ | exact ⟨rfl, _, Eq.trans (World.drewN_drewN _ _ _) (congrArg (World.drewN _) (Nat.add_assoc _ _ _))⟩)) | (go_at_call 10; (with_reducible refine (point_Of.calls t493 t495 t496 t497 _ A16.out).mono ?_); rintro e w' ⟨rfl, ⟨nd, rfl⟩⟩; (try first | exact ⟨rfl, _, World.drewN_drewN _ _ _⟩ | exact ⟨rfl, _, Eq.trans (World.drewN_drewN _ _ _) (congrArg (World.drewN _) (Nat.add_assoc _ _ _))⟩)) | (go_at_call 17; (with_reducible refine (arraslaw3_num.calls t497 t498 _ A17.out).mono ?_); rintro e w' ⟨rfl, ⟨nd, rfl⟩⟩; (try first | exact ⟨rfl, _, World.drewN_drewN _ _ _⟩ | exact ⟨rfl, _, Eq.trans (World.drewN_drewN _ _ _) (congrArg (World.drewN _) (Nat.add_assoc _ _ _))⟩))); try go_wp2_with (first | (go_at_call 22; (with_reducible refine (arraslaw0_Within.calls ji11 20 t493 _ A12.out).mono ?_); rintro e w' ⟨rfl, ⟨nd, rfl⟩⟩; (try first | exact ⟨rfl, _, World.drewN_drewN _ _ _⟩ | exact ⟨rfl, _, Eq.trans (World.drewN_drewN _ _ _) (congrArg (World.drewN _) (Nat.add_assoc _ _ _))⟩); have p494 : 0 ≤ (x3_1 : Int) := of_decide_eq_true (by first | (with_reducible assumption) | assumption); have q494 : x3_1 < (l0.length : Int) := of_decide_eq_true (by first | (with_reducible assumption) | assumption); obtain ⟨ad494, e494, hx494_0, hx494_1, hx494_2, hx494_3, hx494_4, hx494_5, hx494_6, hx494_7, hx494_8, hx494_9⟩ := at_T26 HR0.out x3_1 p494 q494; obtain rfl : ad492 = ad494 := (by injection e494); replace hx494_0 := (HB.out.cell (World.block_lt_of_cell? w _ hx494_0)).trans hx494_0; replace hx494_1 := (HB.out.cell (World.block_lt_of_cell? w _ hx494_1)).trans hx494_1; replace hx494_2 := (HB.out.cell (World.block_lt_of_cell? w _ hx494_2)).trans hx494_2; replace hx494_3 := (HB.out.cell (World.block_lt_of_cell? w _ hx494_3)).trans hx494_3; replace hx494_4 := (HB.out.cell (World.block_lt_of_cell? w _ hx494_4)).trans hx494_4; replace hx494_5 := (HB.out.cell (World.block_lt_of_cell? w _ hx494_5)).trans hx494_5; replace hx494_6 := (HB.out.cell (World.block_lt_of_cell? w _ hx494_6)).trans hx494_6; replace hx494_7 := (HB.out.cell (World.block_lt_of_cell? w _ hx494_7)).trans hx494_7; replace hx494_8 := (HB.out.cell (World.block_lt_of_cell? w _ hx494_8)).trans hx494_8; replace hx494_9 := (HB.out.cell (World.block_lt_of_cell? w _ hx494_9)).trans hx494_9; replace p494 := eq_true p494; replace q494 := eq_true q494) | (go_at_call 22; (with_reducible refine (arraslaw0_Within.calls ji14 20 t495 _ A15.out).mono ?_); rintro e w' ⟨rfl, ⟨nd, rfl⟩⟩; (try first | exact ⟨rfl, _, World.drewN_drewN _ _ _⟩ | exact ⟨rfl, _, Eq.trans (World.drewN_drewN _ _ _) (congrArg (World.drewN _) (Nat.add_assoc _ _ _))⟩)) | (go_at_call 10; (with_reducible refine (point_Of.calls t493 t495 t496 t497 _ A16.out).mono ?_); rintro e w' ⟨rfl, ⟨nd, rfl⟩⟩; (try first | exact ⟨rfl, _, World.drewN_drewN _ _ _⟩ | exact ⟨rfl, _, Eq.trans (World.drewN_drewN _ _ _) (congrArg (World.drewN _) (Nat.add_assoc _ _ _))⟩)) | (go_at_call 17; (with_reducible refine (arraslaw3_num.calls t497 t498 _ A17.out).mono ?_); rintro e w' ⟨rfl, ⟨nd, rfl⟩⟩; (try first | exact ⟨rfl, _, World.drewN_drewN _ _ _⟩ | exact ⟨rfl, _, Eq.trans (World.drewN_drewN _ _ _) (congrArg (World.drewN _) (Nat.add_assoc _ _ _))⟩))))
             go_ret
             exact ⟨by first | rfl | (simp [errW_none, errW_some] <;> rfl) | (simp only [← hji9, ← hji11, ← hji14]; first | rfl | (simp [errW_none, errW_some] <;> rfl)) | (simp [*, errW_none, errW_some] <;> rfl), by repeat (first | (with_reducible first | exact HB.out | apply below_alloc | apply pw_below_drewN | apply below_drew1 | refine below_set ?_ GE491.out) | exact HB.out)⟩
           ·rw [if_neg c10] at H
            exact absurd H (by simp)
          ·rw [if_neg c8] at H
           exact absurd H (by simp)
         ·rw [if_neg c7] at H
          exact absurd H (by simp)
        ·rw [if_neg c6] at H
         have c6b0 : decide (x5_3 < 4) = false := decide_eq_false c6
         clear c6
         replace H := Option.bind_eq_some_iff.mp H
         obtain ⟨⟨t499, t500, t501⟩, A270, H⟩ := H
         replace H : ((point_Meet.f k3 x492000_3 x492001_3 x492002_3 x492003_3).bind fun bt502 => ((arraslaw3_num.f t501).bind fun t505 => (if t505 = 0 then ((arraslaw3_num.f bt502.2.2).bind fun t506 => (arraslaw3_PointBoth.j3 k3 l0 x3_1 t499 t500 bt502.1 bt502.2.1 (t506 != 0) x492000_3 x492001_3 x492002_3 x492003_3)) else (arraslaw3_PointBoth.j3 k3 l0 x3_1 t499 t500 bt502.1 bt502.2.1 true x492000_3 x492001_3 x492002_3 x492003_3)))) = some r := H
         have A27 := Aside0.mk A270; clear A270
         replace H := Option.bind_eq_some_iff.mp H
         obtain ⟨⟨t502, t503, t504⟩, A280, H⟩ := H
         replace H : ((arraslaw3_num.f t501).bind fun t505 => (if t505 = 0 then ((arraslaw3_num.f t504).bind fun t506 => (arraslaw3_PointBoth.j3 k3 l0 x3_1 t499 t500 t502 t503 (t506 != 0) x492000_3 x492001_3 x492002_3 x492003_3)) else (arraslaw3_PointBoth.j3 k3 l0 x3_1 t499 t500 t502 t503 true x492000_3 x492001_3 x492002_3 x492003_3))) = some r := H
         have A28 := Aside0.mk A280; clear A280; have HC29 := Aside0.mk H; clear H
         have hcz30_0 : wr.cell? ⟨gb491, 0, none⟩ = some (.complex .f64 x492000_3.1 x492000_3.2) := (blk_cell BK491.out 0).trans rfl
         have hcz30_1 : wr.cell? ⟨gb491, 1, none⟩ = some (.complex .f64 x492001_3.1 x492001_3.2) := (blk_cell BK491.out 1).trans rfl
         have hcz30_2 : wr.cell? ⟨gb491, 2, none⟩ = some (.complex .f64 x492002_3.1 x492002_3.2) := (blk_cell BK491.out 2).trans rfl
         have hcz30_3 : wr.cell? ⟨gb491, 3, none⟩ = some (.complex .f64 x492003_3.1 x492003_3.2) := (blk_cell BK491.out 3).trans rfl
         have hfz30_0 := blk_frozen BK491.out 0
         have hfz30_1 := blk_frozen BK491.out 1
         have hfz30_2 := blk_frozen BK491.out 2
         have hfz30_3 := blk_frozen BK491.out 3
         go_upto_region 15 with (first | (go_at_call 29; (with_reducible refine (point_Join.calls k3 x492000_3 x492001_3 x492002_3 x492003_3 t499 t500 t501 _ A27.out).mono ?_); rintro e w31 ⟨rfl, hb⟩; have n0_ := Aside0.mk (blk_below (g := gb491) (o := .cells #[.complex .f64 x492000_3.1 x492000_3.2, .complex .f64 x492001_3.1 x492001_3.2, .complex .f64 x492002_3.1 x492002_3.2, .complex .f64 x492003_3.1 x492003_3.2] 54 (0, 0)) (by (with_reducible repeat (first | refine blk_drewN ?_ _ | refine blk_drew ?_ | refine blk_alloc ?_ _)); exact BK491.out) hb); have n1_ := Aside0.mk (below_step (by repeat (first | (with_reducible first | exact HB.out | apply below_alloc | apply pw_below_drewN | apply below_drew1 | refine below_set ?_ GE491.out) | exact HB.out)) hb); clear BK491; clear HB; have BK491 := n0_; have HB := n1_; clear n0_ n1_; (try clear hb); (try clear hb2); (try clear hk); (try clear hi); have hcz32_0 : w31.cell? ⟨gb491, 0, none⟩ = some (.complex .f64 x492000_3.1 x492000_3.2) := (blk_cell BK491.out 0).trans rfl; have hcz32_1 : w31.cell? ⟨gb491, 1, none⟩ = some (.complex .f64 x492001_3.1 x492001_3.2) := (blk_cell BK491.out 1).trans rfl; have hcz32_2 : w31.cell? ⟨gb491, 2, none⟩ = some (.complex .f64 x492002_3.1 x492002_3.2) := (blk_cell BK491.out 2).trans rfl; have hcz32_3 : w31.cell? ⟨gb491, 3, none⟩ = some (.complex .f64 x492003_3.1 x492003_3.2) := (blk_cell BK491.out 3).trans rfl; have hfz32_0 := blk_frozen BK491.out 0; have hfz32_1 := blk_frozen BK491.out 1; have hfz32_2 := blk_frozen BK491.out 2; have hfz32_3 := blk_frozen BK491.out 3) | (go_at_call 30; (with_reducible refine (point_Meet.calls k3 x492000_3 x492001_3 x492002_3 x492003_3 t502 t503 t504 _ A28.out).mono ?_); rintro e w33 ⟨rfl, hb⟩; have n0_ := Aside0.mk (blk_below (g := gb491) (o := .cells #[.complex .f64 x492000_3.1 x492000_3.2, .complex .f64 x492001_3.1 x492001_3.2, .complex .f64 x492002_3.1 x492002_3.2, .complex .f64 x492003_3.1 x492003_3.2] 54 (0, 0)) (by (with_reducible repeat (first | refine blk_drewN ?_ _ | refine blk_drew ?_ | refine blk_alloc ?_ _)); exact BK491.out) hb); have n1_ := Aside0.mk (below_step (by repeat (first | (with_reducible first | exact HB.out | apply below_alloc | apply pw_below_drewN | apply below_drew1 | refine below_set ?_ GE491.out) | exact HB.out)) hb); clear BK491; clear HB; have BK491 := n0_; have HB := n1_; clear n0_ n1_; (try clear hb); (try clear hb2); (try clear hk); (try clear hi)))
         repeat (go_quiet (first | (go_at_call 29; (with_reducible refine (point_Join.calls k3 x492000_3 x492001_3 x492002_3 x492003_3 t499 t500 t501 _ A27.out).mono ?_); rintro e w31 ⟨rfl, hb⟩; have n0_ := Aside0.mk (blk_below (g := gb491) (o := .cells #[.complex .f64 x492000_3.1 x492000_3.2, .complex .f64 x492001_3.1 x492001_3.2, .complex .f64 x492002_3.1 x492002_3.2, .complex .f64 x492003_3.1 x492003_3.2] 54 (0, 0)) (by (with_reducible repeat (first | refine blk_drewN ?_ _ | refine blk_drew ?_ | refine blk_alloc ?_ _)); exact BK491.out) hb); have n1_ := Aside0.mk (below_step (by repeat (first | (with_reducible first | exact HB.out | apply below_alloc | apply pw_below_drewN | apply below_drew1 | refine below_set ?_ GE491.out) | exact HB.out)) hb); clear BK491; clear HB; have BK491 := n0_; have HB := n1_; clear n0_ n1_; (try clear hb); (try clear hb2); (try clear hk); (try clear hi); have hcz32_0 : w31.cell? ⟨gb491, 0, none⟩ = some (.complex .f64 x492000_3.1 x492000_3.2) := (blk_cell BK491.out 0).trans rfl; have hcz32_1 : w31.cell? ⟨gb491, 1, none⟩ = some (.complex .f64 x492001_3.1 x492001_3.2) := (blk_cell BK491.out 1).trans rfl; have hcz32_2 : w31.cell? ⟨gb491, 2, none⟩ = some (.complex .f64 x492002_3.1 x492002_3.2) := (blk_cell BK491.out 2).trans rfl; have hcz32_3 : w31.cell? ⟨gb491, 3, none⟩ = some (.complex .f64 x492003_3.1 x492003_3.2) := (blk_cell BK491.out 3).trans rfl; have hfz32_0 := blk_frozen BK491.out 0; have hfz32_1 := blk_frozen BK491.out 1; have hfz32_2 := blk_frozen BK491.out 2; have hfz32_3 := blk_frozen BK491.out 3) | (go_at_call 30; (with_reducible refine (point_Meet.calls k3 x492000_3 x492001_3 x492002_3 x492003_3 t502 t503 t504 _ A28.out).mono ?_); rintro e w33 ⟨rfl, hb⟩; have n0_ := Aside0.mk (blk_below (g := gb491) (o := .cells #[.complex .f64 x492000_3.1 x492000_3.2, .complex .f64 x492001_3.1 x492001_3.2, .complex .f64 x492002_3.1 x492002_3.2, .complex .f64 x492003_3.1 x492003_3.2] 54 (0, 0)) (by (with_reducible repeat (first | refine blk_drewN ?_ _ | refine blk_drew ?_ | refine blk_alloc ?_ _)); exact BK491.out) hb); have n1_ := Aside0.mk (below_step (by repeat (first | (with_reducible first | exact HB.out | apply below_alloc | apply pw_below_drewN | apply below_drew1 | refine below_set ?_ GE491.out) | exact HB.out)) hb); clear BK491; clear HB; have BK491 := n0_; have HB := n1_; clear n0_ n1_; (try clear hb); (try clear hb2); (try clear hk); (try clear hi))); go_upto_region 15 with (first | (go_at_call 29; (with_reducible refine (point_Join.calls k3 x492000_3 x492001_3 x492002_3 x492003_3 t499 t500 t501 _ A27.out).mono ?_); rintro e w31 ⟨rfl, hb⟩; have n0_ := Aside0.mk (blk_below (g := gb491) (o := .cells #[.complex .f64 x492000_3.1 x492000_3.2, .complex .f64 x492001_3.1 x492001_3.2, .complex .f64 x492002_3.1 x492002_3.2, .complex .f64 x492003_3.1 x492003_3.2] 54 (0, 0)) (by (with_reducible repeat (first | refine blk_drewN ?_ _ | refine blk_drew ?_ | refine blk_alloc ?_ _)); exact BK491.out) hb); have n1_ := Aside0.mk (below_step (by repeat (first | (with_reducible first | exact HB.out | apply below_alloc | apply pw_below_drewN | apply below_drew1 | refine below_set ?_ GE491.out) | exact HB.out)) hb); clear BK491; clear HB; have BK491 := n0_; have HB := n1_; clear n0_ n1_; (try clear hb); (try clear hb2); (try clear hk); (try clear hi); have hcz32_0 : w31.cell? ⟨gb491, 0, none⟩ = some (.complex .f64 x492000_3.1 x492000_3.2) := (blk_cell BK491.out 0).trans rfl; have hcz32_1 : w31.cell? ⟨gb491, 1, none⟩ = some (.complex .f64 x492001_3.1 x492001_3.2) := (blk_cell BK491.out 1).trans rfl; have hcz32_2 : w31.cell? ⟨gb491, 2, none⟩ = some (.complex .f64 x492002_3.1 x492002_3.2) := (blk_cell BK491.out 2).trans rfl; have hcz32_3 : w31.cell? ⟨gb491, 3, none⟩ = some (.complex .f64 x492003_3.1 x492003_3.2) := (blk_cell BK491.out 3).trans rfl; have hfz32_0 := blk_frozen BK491.out 0; have hfz32_1 := blk_frozen BK491.out 1; have hfz32_2 := blk_frozen BK491.out 2; have hfz32_3 := blk_frozen BK491.out 3) | (go_at_call 30; (with_reducible refine (point_Meet.calls k3 x492000_3 x492001_3 x492002_3 x492003_3 t502 t503 t504 _ A28.out).mono ?_); rintro e w33 ⟨rfl, hb⟩; have n0_ := Aside0.mk (blk_below (g := gb491) (o := .cells #[.complex .f64 x492000_3.1 x492000_3.2, .complex .f64 x492001_3.1 x492001_3.2, .complex .f64 x492002_3.1 x492002_3.2, .complex .f64 x492003_3.1 x492003_3.2] 54 (0, 0)) (by (with_reducible repeat (first | refine blk_drewN ?_ _ | refine blk_drew ?_ | refine blk_alloc ?_ _)); exact BK491.out) hb); have n1_ := Aside0.mk (below_step (by repeat (first | (with_reducible first | exact HB.out | apply below_alloc | apply pw_below_drewN | apply below_drew1 | refine below_set ?_ GE491.out) | exact HB.out)) hb); clear BK491; clear HB; have BK491 := n0_; have HB := n1_; clear n0_ n1_; (try clear hb); (try clear hb2); (try clear hk); (try clear hi))))
         (try simp only [Act.put, List.setIfInBounds_toArray, List.set_cons_zero, List.set_cons_succ])
         go_cut [103] (fun v103 wc => ∃ (kq : Nat) (x103_28 : Bool), v103 = .bool x103_28 ∧ Aside0 (arraslaw3_PointBoth.j3 kq l0 x3_1 t499 t500 t502 t503 x103_28 x492000_3 x492001_3 x492002_3 x492003_3 = some r) ∧ Aside0 (kq ≤ k3) ∧ Aside0 (wc.heap[gb491]? = some (.cells #[.complex .f64 x492000_3.1 x492000_3.2, .complex .f64 x492001_3.1 x492001_3.2, .complex .f64 x492002_3.1 x492002_3.2, .complex .f64 x492003_3.1 x492003_3.2] 54 (0, 0))) ∧ Aside0 (Below w.heap.size w wc))
         case first => as_aux_lemma =>
          have H := HC29.out
          clear HC29
          replace H := Option.bind_eq_some_iff.mp H
          obtain ⟨t505, A340, H⟩ := H
          replace H : (if t505 = 0 then ((arraslaw3_num.f t504).bind fun t506 => (arraslaw3_PointBoth.j3 k3 l0 x3_1 t499 t500 t502 t503 (t506 != 0) x492000_3 x492001_3 x492002_3 x492003_3)) else (arraslaw3_PointBoth.j3 k3 l0 x3_1 t499 t500 t502 t503 true x492000_3 x492001_3 x492002_3 x492003_3)) = some r := H
          have A34 := Aside0.mk A340; clear A340
          by_cases c35 : t505 = 0
          ·rw [if_pos c35] at H
           have c35b0 : (t505 == 0) = true := beq_iff_eq.mpr c35
           have c35b1 : (t505 != 0) = false := bne_eq_false_iff_eq.mpr c35
           clear c35
           (first | rw [c35b0] | (simp only [i64_w, i32_w]; rw [c35b0]) | skip)
           replace H := Option.bind_eq_some_iff.mp H
           obtain ⟨t506, A360, H⟩ := H
           replace H : (arraslaw3_PointBoth.j3 k3 l0 x3_1 t499 t500 t502 t503 (t506 != 0) x492000_3 x492001_3 x492002_3 x492003_3) = some r := H
           have A36 := Aside0.mk A360; clear A360
           have H' := Aside0.mk H
           clear H
           go_wp2_with (first | (go_at_call 17; (with_reducible refine (arraslaw3_num.calls t501 t505 _ A34.out).mono ?_); rintro e w' ⟨rfl, ⟨nd, rfl⟩⟩; (try first | exact ⟨rfl, _, World.drewN_drewN _ _ _⟩ | exact ⟨rfl, _, Eq.trans (World.drewN_drewN _ _ _) (congrArg (World.drewN _) (Nat.add_assoc _ _ _))⟩)) | (go_at_call 17; (with_reducible refine (arraslaw3_num.calls t504 t506 _ A36.out).mono ?_); rintro e w' ⟨rfl, ⟨nd, rfl⟩⟩; (try first | exact ⟨rfl, _, World.drewN_drewN _ _ _⟩ | exact ⟨rfl, _, Eq.trans (World.drewN_drewN _ _ _) (congrArg (World.drewN _) (Nat.add_assoc _ _ _))⟩)))
           repeat (go_quiet (first | (go_at_call 17; (with_reducible refine (arraslaw3_num.calls t501 t505 _ A34.out).mono ?_); rintro e w' ⟨rfl, ⟨nd, rfl⟩⟩; (try first | exact ⟨rfl, _, World.drewN_drewN _ _ _⟩ | exact ⟨rfl, _, Eq.trans (World.drewN_drewN _ _ _) (congrArg (World.drewN _) (Nat.add_assoc _ _ _))⟩)) | (go_at_call 17; (with_reducible refine (arraslaw3_num.calls t504 t506 _ A36.out).mono ?_); rintro e w' ⟨rfl, ⟨nd, rfl⟩⟩; (try first | exact ⟨rfl, _, World.drewN_drewN _ _ _⟩ | exact ⟨rfl, _, Eq.trans (World.drewN_drewN _ _ _) (congrArg (World.drewN _) (Nat.add_assoc _ _ _))⟩))); try go_wp2_with (first | (go_at_call 17; (with_reducible refine (arraslaw3_num.calls t501 t505 _ A34.out).mono ?_); rintro e w' ⟨rfl, ⟨nd, rfl⟩⟩; (try first | exact ⟨rfl, _, World.drewN_drewN _ _ _⟩ | exact ⟨rfl, _, Eq.trans (World.drewN_drewN _ _ _) (congrArg (World.drewN _) (Nat.add_assoc _ _ _))⟩)) | (go_at_call 17; (with_reducible refine (arraslaw3_num.calls t504 t506 _ A36.out).mono ?_); rintro e w' ⟨rfl, ⟨nd, rfl⟩⟩; (try first | exact ⟨rfl, _, World.drewN_drewN _ _ _⟩ | exact ⟨rfl, _, Eq.trans (World.drewN_drewN _ _ _) (congrArg (World.drewN _) (Nat.add_assoc _ _ _))⟩))))
           go_meet
           case rel => exact ⟨_, ((t506 != 0)), (by first | rfl | (simp; done) | (simp [*]; done)), H', ⟨by have := HK1.out; have := HJ1.out; have := HK3.out; first | omega | exact Nat.le_refl _⟩, ⟨by (with_reducible repeat (first | refine blk_drewN ?_ _ | refine blk_drew ?_ | refine blk_alloc ?_ _)); exact BK491.out⟩, ⟨by repeat (first | (with_reducible first | exact HB.out | apply below_alloc | apply pw_below_drewN | apply below_drew1 | refine below_set ?_ GE491.out) | exact HB.out)⟩⟩
          ·rw [if_neg c35] at H
           have c35b0 : (t505 == 0) = false := beq_eq_false_iff_ne.mpr c35
           have c35b1 : (t505 != 0) = true := bne_iff_ne.mpr c35
           (first | rw [c35b0] | (simp only [i64_w, i32_w]; rw [c35b0]) | skip)
           have H' := Aside0.mk H
           clear H
           go_wp2_with (first | (go_at_call 17; (with_reducible refine (arraslaw3_num.calls t501 t505 _ A34.out).mono ?_); rintro e w' ⟨rfl, ⟨nd, rfl⟩⟩; (try first | exact ⟨rfl, _, World.drewN_drewN _ _ _⟩ | exact ⟨rfl, _, Eq.trans (World.drewN_drewN _ _ _) (congrArg (World.drewN _) (Nat.add_assoc _ _ _))⟩)))
           repeat (go_quiet (first | (go_at_call 17; (with_reducible refine (arraslaw3_num.calls t501 t505 _ A34.out).mono ?_); rintro e w' ⟨rfl, ⟨nd, rfl⟩⟩; (try first | exact ⟨rfl, _, World.drewN_drewN _ _ _⟩ | exact ⟨rfl, _, Eq.trans (World.drewN_drewN _ _ _) (congrArg (World.drewN _) (Nat.add_assoc _ _ _))⟩))); try go_wp2_with (first | (go_at_call 17; (with_reducible refine (arraslaw3_num.calls t501 t505 _ A34.out).mono ?_); rintro e w' ⟨rfl, ⟨nd, rfl⟩⟩; (try first | exact ⟨rfl, _, World.drewN_drewN _ _ _⟩ | exact ⟨rfl, _, Eq.trans (World.drewN_drewN _ _ _) (congrArg (World.drewN _) (Nat.add_assoc _ _ _))⟩))))
           go_meet
           case rel => exact ⟨_, (true), (by first | rfl | (simp; done) | (simp [*]; done)), H', ⟨by have := HK1.out; have := HJ1.out; have := HK3.out; first | omega | exact Nat.le_refl _⟩, ⟨by (with_reducible repeat (first | refine blk_drewN ?_ _ | refine blk_drew ?_ | refine blk_alloc ?_ _)); exact BK491.out⟩, ⟨by repeat (first | (with_reducible first | exact HB.out | apply below_alloc | apply pw_below_drewN | apply below_drew1 | refine below_set ?_ GE491.out) | exact HB.out)⟩⟩
         case rest => as_aux_lemma =>
          clear HC29
          try clear c1
          try clear c2
          try clear p2
          try clear c3
          try clear c3b0
          try clear c4
          try clear p4
          try clear q4
          try clear hx4
          try clear c6
          try clear c6b0
          try clear p6
          try clear c7
          try clear c7b0
          try clear c8
          try clear c8b0
          try clear c10
          try clear c10b0
          try clear c10b1
          try clear c13
          try clear c13b0
          try clear c18
          try clear c18b0
          try clear c18b1
          try clear c19
          try clear c19b0
          try clear c19b1
          try clear c19b2
          try clear c21
          try clear c21b0
          try clear c21b1
          try clear c21b2
          try clear c23
          try clear c23b0
          try clear c23b1
          try clear c23b2
          try clear c25
          try clear c25b0
          try clear c25b1
          try clear c25b2
          try clear c35
          try clear c35b0
          try clear c35b1
          try clear hcz20_0
          try clear hcz20_1
          try clear hcz20_2
          try clear hcz20_3
          try clear hcz22_0
          try clear hcz22_1
          try clear hcz22_2
          try clear hcz22_3
          try clear hcz24_0
          try clear hcz24_1
          try clear hcz24_2
          try clear hcz24_3
          try clear hcz26_0
          try clear hcz26_1
          try clear hcz26_2
          try clear hcz26_3
          try clear hcz30_0
          try clear hcz30_1
          try clear hcz30_2
          try clear hcz30_3
          try clear hcz32_0
          try clear hcz32_1
          try clear hcz32_2
          try clear hcz32_3
          try clear hfz20_0
          try clear hfz20_1
          try clear hfz20_2
          try clear hfz20_3
          try clear hfz22_0
          try clear hfz22_1
          try clear hfz22_2
          try clear hfz22_3
          try clear hfz24_0
          try clear hfz24_1
          try clear hfz24_2
          try clear hfz24_3
          try clear hfz26_0
          try clear hfz26_1
          try clear hfz26_2
          try clear hfz26_3
          try clear hfz30_0
          try clear hfz30_1
          try clear hfz30_2
          try clear hfz30_3
          try clear hfz32_0
          try clear hfz32_1
          try clear hfz32_2
          try clear hfz32_3
          try clear hx492_0
          try clear hx492_1
          try clear hx492_2
          try clear hx492_3
          try clear hx492_4
          try clear hx492_5
          try clear hx492_6
          try clear hx492_7
          try clear hx492_8
          try clear hx492_9
          try clear hx494_0
          try clear hx494_1
          try clear hx494_2
          try clear hx494_3
          try clear hx494_4
          try clear hx494_5
          try clear hx494_6
          try clear hx494_7
          try clear hx494_8
          try clear hx494_9
          try clear p2
          try clear p492
          try clear p494
          try clear q492
          try clear q494
          obtain ⟨kq, x103_28, rfl, HA, HJ28, BK491, HB⟩ := hcut
          cases kq with
          | zero => exact absurd HA.out (by simp [arraslaw3_PointBoth.j3])
          | succ kj28 =>
           have H := HA.out
           clear HA
           simp only [arraslaw3_PointBoth.j3] at H
           by_cases c37 : x103_28 = true
           ·subst c37
            have H1 : (some false) = some r := by rw [if_pos rfl] at H; exact H
            clear H; have H := H1; clear H1
            obtain rfl := Option.some.inj H
            go_wp2
            repeat (go_quiet (fail); try go_wp2)
            go_ret
            exact ⟨by first | rfl | (simp [errW_none, errW_some] <;> rfl) | (simp [*, errW_none, errW_some] <;> rfl), by repeat (first | (with_reducible first | exact HB.out | apply below_alloc | apply pw_below_drewN | apply below_drew1 | refine below_set ?_ GE491.out) | exact HB.out)⟩
           ·replace c37 := Bool.eq_false_iff.mpr c37
            subst c37
            have H1 : (arraslaw3_PointBoth.l2 kj28 l0 x3_1 t499 t500 t502 t503 0 x492000_3 x492001_3 x492002_3 x492003_3) = some r := by rw [if_neg (show ¬ (false = true) by decide)] at H; exact H
            clear H; have H := H1; clear H1
            have H' := Aside0.mk H
            clear H
            go_wp2
            repeat (go_quiet (fail); try go_wp2)
            go_loopg [16] kj28 (fun kq v16 w' => ∃ (x16_5 : Int), v16 = .int .i64 x16_5 ∧ Aside0 (arraslaw3_PointBoth.l2 kq l0 x3_1 t499 t500 t502 t503 x16_5 x492000_3 x492001_3 x492002_3 x492003_3 = some r) ∧ Aside0 (kq ≤ kj28) ∧ Aside0 (w'.heap[gb491]? = some (.cells #[.complex .f64 x492000_3.1 x492000_3.2, .complex .f64 x492001_3.1 x492001_3.2, .complex .f64 x492002_3.1 x492002_3.2, .complex .f64 x492003_3.1 x492003_3.2] 54 (0, 0))) ∧ Aside0 (Below w.heap.size w w'))
            case atStart => exact ⟨(0), (by first | rfl | (simp; done) | (simp [*]; done)), H', ⟨Nat.le_refl _⟩, ⟨by (with_reducible repeat (first | refine blk_drewN ?_ _ | refine blk_drew ?_ | refine blk_alloc ?_ _)); exact BK491.out⟩, ⟨by repeat (first | (with_reducible first | exact HB.out | apply below_alloc | apply pw_below_drewN | apply below_drew1 | refine below_set ?_ GE491.out) | exact HB.out)⟩⟩
            case round => as_aux_lemma =>
             clear H'
             try clear c1
             try clear c2
             try clear p2
             try clear c3
             try clear c3b0
             try clear c4
             try clear p4
             try clear q4
             try clear hx4
             try clear c6
             try clear c6b0
             try clear p6
             try clear c7
             try clear c7b0
             try clear c8
             try clear c8b0
             try clear c10
             try clear c10b0
             try clear c10b1
             try clear c13
             try clear c13b0
             try clear c18
             try clear c18b0
             try clear c18b1
             try clear c19
             try clear c19b0
             try clear c19b1
             try clear c19b2
             try clear c21
             try clear c21b0
             try clear c21b1
             try clear c21b2
             try clear c23
             try clear c23b0
             try clear c23b1
             try clear c23b2
             try clear c25
             try clear c25b0
             try clear c25b1
             try clear c25b2
             try clear c35
             try clear c35b0
             try clear c35b1
             try clear c37
             try clear hcz20_0
             try clear hcz20_1
             try clear hcz20_2
             try clear hcz20_3
             try clear hcz22_0
             try clear hcz22_1
             try clear hcz22_2
             try clear hcz22_3
             try clear hcz24_0
             try clear hcz24_1
             try clear hcz24_2
             try clear hcz24_3
             try clear hcz26_0
             try clear hcz26_1
             try clear hcz26_2
             try clear hcz26_3
             try clear hcz30_0
             try clear hcz30_1
             try clear hcz30_2
             try clear hcz30_3
             try clear hcz32_0
             try clear hcz32_1
             try clear hcz32_2
             try clear hcz32_3
             try clear hfz20_0
             try clear hfz20_1
             try clear hfz20_2
             try clear hfz20_3
             try clear hfz22_0
             try clear hfz22_1
             try clear hfz22_2
             try clear hfz22_3
             try clear hfz24_0
             try clear hfz24_1
             try clear hfz24_2
             try clear hfz24_3
             try clear hfz26_0
             try clear hfz26_1
             try clear hfz26_2
             try clear hfz26_3
             try clear hfz30_0
             try clear hfz30_1
             try clear hfz30_2
             try clear hfz30_3
             try clear hfz32_0
             try clear hfz32_1
             try clear hfz32_2
             try clear hfz32_3
             try clear hx492_0
             try clear hx492_1
             try clear hx492_2
             try clear hx492_3
             try clear hx492_4
             try clear hx492_5
             try clear hx492_6
             try clear hx492_7
             try clear hx492_8
             try clear hx492_9
             try clear hx494_0
             try clear hx494_1
             try clear hx494_2
             try clear hx494_3
             try clear hx494_4
             try clear hx494_5
             try clear hx494_6
             try clear hx494_7
             try clear hx494_8
             try clear hx494_9
             try clear p2
             try clear p4
             try clear p492
             try clear p494
             try clear p6
             try clear q4
             try clear q492
             try clear q494
             obtain ⟨x16_5, rfl, HA, HK5, BK491, HB⟩ := hrel
             cases gk with
             | zero => exact absurd HA.out (by simp [arraslaw3_PointBoth.l2])
             | succ k5 =>
              have H := HA.out
              clear HA
              simp only [arraslaw3_PointBoth.l2] at H
              by_cases c38 : x16_5 < 100
              ·rw [if_pos c38] at H
               have c38b0 : decide (x16_5 < 100) = true := decide_eq_true c38
               clear c38
               replace H := Option.bind_eq_some_iff.mp H
               obtain ⟨⟨t507, t508⟩, A390, H⟩ := H
               replace H : ((point_Has.f k5 x492002_3 x492003_3 ((fOf (wrap64 ((Int.tmod x16_5 10) * 4)), fOf (wrap64 ((wrap64 (Int.tdiv x16_5 10)) * 4))) : C128)).bind fun bt509 => ((point_Has.f k5 t499 t500 ((fOf (wrap64 ((Int.tmod x16_5 10) * 4)), fOf (wrap64 ((wrap64 (Int.tdiv x16_5 10)) * 4))) : C128)).bind fun bt511 => ((point_Has.f k5 t502 t503 ((fOf (wrap64 ((Int.tmod x16_5 10) * 4)), fOf (wrap64 ((wrap64 (Int.tdiv x16_5 10)) * 4))) : C128)).bind fun bt513 => ((arraslaw3_num.f t508).bind fun t515 => (if t515 = 0 then ((arraslaw3_num.f bt509.2).bind fun t516 => (if t516 = 0 then ((arraslaw3_num.f bt511.2).bind fun t517 => (if t517 = 0 then ((arraslaw3_num.f bt513.2).bind fun t518 => (if t518 = 0 then (if t507 = true then (if (bt513.1 != bt509.1) = true then (arraslaw3_PointBoth.j5 k5 l0 x3_1 t499 t500 t502 t503 x16_5 true x492000_3 x492001_3 x492002_3 x492003_3) else (arraslaw3_PointBoth.j5 k5 l0 x3_1 t499 t500 t502 t503 x16_5 (!bt511.1) x492000_3 x492001_3 x492002_3 x492003_3)) else (if (bt513.1 != false) = true then (arraslaw3_PointBoth.j5 k5 l0 x3_1 t499 t500 t502 t503 x16_5 true x492000_3 x492001_3 x492002_3 x492003_3) else (if bt509.1 = true then (arraslaw3_PointBoth.j5 k5 l0 x3_1 t499 t500 t502 t503 x16_5 (!bt511.1) x492000_3 x492001_3 x492002_3 x492003_3) else (arraslaw3_PointBoth.j5 k5 l0 x3_1 t499 t500 t502 t503 x16_5 false x492000_3 x492001_3 x492002_3 x492003_3)))) else (arraslaw3_PointBoth.j5 k5 l0 x3_1 t499 t500 t502 t503 x16_5 true x492000_3 x492001_3 x492002_3 x492003_3))) else (arraslaw3_PointBoth.j5 k5 l0 x3_1 t499 t500 t502 t503 x16_5 true x492000_3 x492001_3 x492002_3 x492003_3))) else (arraslaw3_PointBoth.j5 k5 l0 x3_1 t499 t500 t502 t503 x16_5 true x492000_3 x492001_3 x492002_3 x492003_3))) else (arraslaw3_PointBoth.j5 k5 l0 x3_1 t499 t500 t502 t503 x16_5 true x492000_3 x492001_3 x492002_3 x492003_3)))))) = some r := H
               have A39 := Aside0.mk A390; clear A390
               replace H := Option.bind_eq_some_iff.mp H
               obtain ⟨⟨t509, t510⟩, A400, H⟩ := H
               replace H : ((point_Has.f k5 t499 t500 ((fOf (wrap64 ((Int.tmod x16_5 10) * 4)), fOf (wrap64 ((wrap64 (Int.tdiv x16_5 10)) * 4))) : C128)).bind fun bt511 => ((point_Has.f k5 t502 t503 ((fOf (wrap64 ((Int.tmod x16_5 10) * 4)), fOf (wrap64 ((wrap64 (Int.tdiv x16_5 10)) * 4))) : C128)).bind fun bt513 => ((arraslaw3_num.f t508).bind fun t515 => (if t515 = 0 then ((arraslaw3_num.f t510).bind fun t516 => (if t516 = 0 then ((arraslaw3_num.f bt511.2).bind fun t517 => (if t517 = 0 then ((arraslaw3_num.f bt513.2).bind fun t518 => (if t518 = 0 then (if t507 = true then (if (bt513.1 != t509) = true then (arraslaw3_PointBoth.j5 k5 l0 x3_1 t499 t500 t502 t503 x16_5 true x492000_3 x492001_3 x492002_3 x492003_3) else (arraslaw3_PointBoth.j5 k5 l0 x3_1 t499 t500 t502 t503 x16_5 (!bt511.1) x492000_3 x492001_3 x492002_3 x492003_3)) else (if (bt513.1 != false) = true then (arraslaw3_PointBoth.j5 k5 l0 x3_1 t499 t500 t502 t503 x16_5 true x492000_3 x492001_3 x492002_3 x492003_3) else (if t509 = true then (arraslaw3_PointBoth.j5 k5 l0 x3_1 t499 t500 t502 t503 x16_5 (!bt511.1) x492000_3 x492001_3 x492002_3 x492003_3) else (arraslaw3_PointBoth.j5 k5 l0 x3_1 t499 t500 t502 t503 x16_5 false x492000_3 x492001_3 x492002_3 x492003_3)))) else (arraslaw3_PointBoth.j5 k5 l0 x3_1 t499 t500 t502 t503 x16_5 true x492000_3 x492001_3 x492002_3 x492003_3))) else (arraslaw3_PointBoth.j5 k5 l0 x3_1 t499 t500 t502 t503 x16_5 true x492000_3 x492001_3 x492002_3 x492003_3))) else (arraslaw3_PointBoth.j5 k5 l0 x3_1 t499 t500 t502 t503 x16_5 true x492000_3 x492001_3 x492002_3 x492003_3))) else (arraslaw3_PointBoth.j5 k5 l0 x3_1 t499 t500 t502 t503 x16_5 true x492000_3 x492001_3 x492002_3 x492003_3))))) = some r := H
               have A40 := Aside0.mk A400; clear A400
               replace H := Option.bind_eq_some_iff.mp H
               obtain ⟨⟨t511, t512⟩, A410, H⟩ := H
               replace H : ((point_Has.f k5 t502 t503 ((fOf (wrap64 ((Int.tmod x16_5 10) * 4)), fOf (wrap64 ((wrap64 (Int.tdiv x16_5 10)) * 4))) : C128)).bind fun bt513 => ((arraslaw3_num.f t508).bind fun t515 => (if t515 = 0 then ((arraslaw3_num.f t510).bind fun t516 => (if t516 = 0 then ((arraslaw3_num.f t512).bind fun t517 => (if t517 = 0 then ((arraslaw3_num.f bt513.2).bind fun t518 => (if t518 = 0 then (if t507 = true then (if (bt513.1 != t509) = true then (arraslaw3_PointBoth.j5 k5 l0 x3_1 t499 t500 t502 t503 x16_5 true x492000_3 x492001_3 x492002_3 x492003_3) else (arraslaw3_PointBoth.j5 k5 l0 x3_1 t499 t500 t502 t503 x16_5 (!t511) x492000_3 x492001_3 x492002_3 x492003_3)) else (if (bt513.1 != false) = true then (arraslaw3_PointBoth.j5 k5 l0 x3_1 t499 t500 t502 t503 x16_5 true x492000_3 x492001_3 x492002_3 x492003_3) else (if t509 = true then (arraslaw3_PointBoth.j5 k5 l0 x3_1 t499 t500 t502 t503 x16_5 (!t511) x492000_3 x492001_3 x492002_3 x492003_3) else (arraslaw3_PointBoth.j5 k5 l0 x3_1 t499 t500 t502 t503 x16_5 false x492000_3 x492001_3 x492002_3 x492003_3)))) else (arraslaw3_PointBoth.j5 k5 l0 x3_1 t499 t500 t502 t503 x16_5 true x492000_3 x492001_3 x492002_3 x492003_3))) else (arraslaw3_PointBoth.j5 k5 l0 x3_1 t499 t500 t502 t503 x16_5 true x492000_3 x492001_3 x492002_3 x492003_3))) else (arraslaw3_PointBoth.j5 k5 l0 x3_1 t499 t500 t502 t503 x16_5 true x492000_3 x492001_3 x492002_3 x492003_3))) else (arraslaw3_PointBoth.j5 k5 l0 x3_1 t499 t500 t502 t503 x16_5 true x492000_3 x492001_3 x492002_3 x492003_3)))) = some r := H
               have A41 := Aside0.mk A410; clear A410
               replace H := Option.bind_eq_some_iff.mp H
               obtain ⟨⟨t513, t514⟩, A420, H⟩ := H
               replace H : ((arraslaw3_num.f t508).bind fun t515 => (if t515 = 0 then ((arraslaw3_num.f t510).bind fun t516 => (if t516 = 0 then ((arraslaw3_num.f t512).bind fun t517 => (if t517 = 0 then ((arraslaw3_num.f t514).bind fun t518 => (if t518 = 0 then (if t507 = true then (if (t513 != t509) = true then (arraslaw3_PointBoth.j5 k5 l0 x3_1 t499 t500 t502 t503 x16_5 true x492000_3 x492001_3 x492002_3 x492003_3) else (arraslaw3_PointBoth.j5 k5 l0 x3_1 t499 t500 t502 t503 x16_5 (!t511) x492000_3 x492001_3 x492002_3 x492003_3)) else (if (t513 != false) = true then (arraslaw3_PointBoth.j5 k5 l0 x3_1 t499 t500 t502 t503 x16_5 true x492000_3 x492001_3 x492002_3 x492003_3) else (if t509 = true then (arraslaw3_PointBoth.j5 k5 l0 x3_1 t499 t500 t502 t503 x16_5 (!t511) x492000_3 x492001_3 x492002_3 x492003_3) else (arraslaw3_PointBoth.j5 k5 l0 x3_1 t499 t500 t502 t503 x16_5 false x492000_3 x492001_3 x492002_3 x492003_3)))) else (arraslaw3_PointBoth.j5 k5 l0 x3_1 t499 t500 t502 t503 x16_5 true x492000_3 x492001_3 x492002_3 x492003_3))) else (arraslaw3_PointBoth.j5 k5 l0 x3_1 t499 t500 t502 t503 x16_5 true x492000_3 x492001_3 x492002_3 x492003_3))) else (arraslaw3_PointBoth.j5 k5 l0 x3_1 t499 t500 t502 t503 x16_5 true x492000_3 x492001_3 x492002_3 x492003_3))) else (arraslaw3_PointBoth.j5 k5 l0 x3_1 t499 t500 t502 t503 x16_5 true x492000_3 x492001_3 x492002_3 x492003_3))) = some r := H
               have A42 := Aside0.mk A420; clear A420; have HC43 := Aside0.mk H; clear H
               have hcz44_0 : wr.cell? ⟨gb491, 0, none⟩ = some (.complex .f64 x492000_3.1 x492000_3.2) := (blk_cell BK491.out 0).trans rfl
               have hcz44_1 : wr.cell? ⟨gb491, 1, none⟩ = some (.complex .f64 x492001_3.1 x492001_3.2) := (blk_cell BK491.out 1).trans rfl
               have hcz44_2 : wr.cell? ⟨gb491, 2, none⟩ = some (.complex .f64 x492002_3.1 x492002_3.2) := (blk_cell BK491.out 2).trans rfl
               have hcz44_3 : wr.cell? ⟨gb491, 3, none⟩ = some (.complex .f64 x492003_3.1 x492003_3.2) := (blk_cell BK491.out 3).trans rfl
               have hfz44_0 := blk_frozen BK491.out 0
               have hfz44_1 := blk_frozen BK491.out 1
               have hfz44_2 := blk_frozen BK491.out 2
               have hfz44_3 := blk_frozen BK491.out 3
               go_upto_region 25 with (first | (go_at_call 26; (with_reducible refine (point_Has.calls k5 x492000_3 x492001_3 ((fOf (wrap64 ((Int.tmod x16_5 10) * 4)), fOf (wrap64 ((wrap64 (Int.tdiv x16_5 10)) * 4))) : C128) t507 t508 _ A39.out).mono ?_); rintro e w45 ⟨rfl, hb⟩; have n0_ := Aside0.mk (blk_below (g := gb491) (o := .cells #[.complex .f64 x492000_3.1 x492000_3.2, .complex .f64 x492001_3.1 x492001_3.2, .complex .f64 x492002_3.1 x492002_3.2, .complex .f64 x492003_3.1 x492003_3.2] 54 (0, 0)) (by (with_reducible repeat (first | refine blk_drewN ?_ _ | refine blk_drew ?_ | refine blk_alloc ?_ _)); exact BK491.out) hb); have n1_ := Aside0.mk (below_step (by repeat (first | (with_reducible first | exact HB.out | apply below_alloc | apply pw_below_drewN | apply below_drew1 | refine below_set ?_ GE491.out) | exact HB.out)) hb); clear BK491; clear HB; have BK491 := n0_; have HB := n1_; clear n0_ n1_; (try clear hb); (try clear hb2); (try clear hk); (try clear hi); have hcz46_0 : w45.cell? ⟨gb491, 0, none⟩ = some (.complex .f64 x492000_3.1 x492000_3.2) := (blk_cell BK491.out 0).trans rfl; have hcz46_1 : w45.cell? ⟨gb491, 1, none⟩ = some (.complex .f64 x492001_3.1 x492001_3.2) := (blk_cell BK491.out 1).trans rfl; have hcz46_2 : w45.cell? ⟨gb491, 2, none⟩ = some (.complex .f64 x492002_3.1 x492002_3.2) := (blk_cell BK491.out 2).trans rfl; have hcz46_3 : w45.cell? ⟨gb491, 3, none⟩ = some (.complex .f64 x492003_3.1 x492003_3.2) := (blk_cell BK491.out 3).trans rfl; have hfz46_0 := blk_frozen BK491.out 0; have hfz46_1 := blk_frozen BK491.out 1; have hfz46_2 := blk_frozen BK491.out 2; have hfz46_3 := blk_frozen BK491.out 3) | (go_at_call 26; (with_reducible refine (point_Has.calls k5 x492002_3 x492003_3 ((fOf (wrap64 ((Int.tmod x16_5 10) * 4)), fOf (wrap64 ((wrap64 (Int.tdiv x16_5 10)) * 4))) : C128) t509 t510 _ A40.out).mono ?_); rintro e w47 ⟨rfl, hb⟩; have n0_ := Aside0.mk (blk_below (g := gb491) (o := .cells #[.complex .f64 x492000_3.1 x492000_3.2, .complex .f64 x492001_3.1 x492001_3.2, .complex .f64 x492002_3.1 x492002_3.2, .complex .f64 x492003_3.1 x492003_3.2] 54 (0, 0)) (by (with_reducible repeat (first | refine blk_drewN ?_ _ | refine blk_drew ?_ | refine blk_alloc ?_ _)); exact BK491.out) hb); have n1_ := Aside0.mk (below_step (by repeat (first | (with_reducible first | exact HB.out | apply below_alloc | apply pw_below_drewN | apply below_drew1 | refine below_set ?_ GE491.out) | exact HB.out)) hb); clear BK491; clear HB; have BK491 := n0_; have HB := n1_; clear n0_ n1_; (try clear hb); (try clear hb2); (try clear hk); (try clear hi)) | (go_at_call 26; (with_reducible refine (point_Has.calls k5 t499 t500 ((fOf (wrap64 ((Int.tmod x16_5 10) * 4)), fOf (wrap64 ((wrap64 (Int.tdiv x16_5 10)) * 4))) : C128) t511 t512 _ A41.out).mono ?_); rintro e w48 ⟨rfl, hb⟩; have n0_ := Aside0.mk (blk_below (g := gb491) (o := .cells #[.complex .f64 x492000_3.1 x492000_3.2, .complex .f64 x492001_3.1 x492001_3.2, .complex .f64 x492002_3.1 x492002_3.2, .complex .f64 x492003_3.1 x492003_3.2] 54 (0, 0)) (by (with_reducible repeat (first | refine blk_drewN ?_ _ | refine blk_drew ?_ | refine blk_alloc ?_ _)); exact BK491.out) hb); have n1_ := Aside0.mk (below_step (by repeat (first | (with_reducible first | exact HB.out | apply below_alloc | apply pw_below_drewN | apply below_drew1 | refine below_set ?_ GE491.out) | exact HB.out)) hb); clear BK491; clear HB; have BK491 := n0_; have HB := n1_; clear n0_ n1_; (try clear hb); (try clear hb2); (try clear hk); (try clear hi)) | (go_at_call 26; (with_reducible refine (point_Has.calls k5 t502 t503 ((fOf (wrap64 ((Int.tmod x16_5 10) * 4)), fOf (wrap64 ((wrap64 (Int.tdiv x16_5 10)) * 4))) : C128) t513 t514 _ A42.out).mono ?_); rintro e w49 ⟨rfl, hb⟩; have n0_ := Aside0.mk (blk_below (g := gb491) (o := .cells #[.complex .f64 x492000_3.1 x492000_3.2, .complex .f64 x492001_3.1 x492001_3.2, .complex .f64 x492002_3.1 x492002_3.2, .complex .f64 x492003_3.1 x492003_3.2] 54 (0, 0)) (by (with_reducible repeat (first | refine blk_drewN ?_ _ | refine blk_drew ?_ | refine blk_alloc ?_ _)); exact BK491.out) hb); have n1_ := Aside0.mk (below_step (by repeat (first | (with_reducible first | exact HB.out | apply below_alloc | apply pw_below_drewN | apply below_drew1 | refine below_set ?_ GE491.out) | exact HB.out)) hb); clear BK491; clear HB; have BK491 := n0_; have HB := n1_; clear n0_ n1_; (try clear hb); (try clear hb2); (try clear hk); (try clear hi)))
               repeat (go_quiet (first | (go_at_call 26; (with_reducible refine (point_Has.calls k5 x492000_3 x492001_3 ((fOf (wrap64 ((Int.tmod x16_5 10) * 4)), fOf (wrap64 ((wrap64 (Int.tdiv x16_5 10)) * 4))) : C128) t507 t508 _ A39.out).mono ?_); rintro e w45 ⟨rfl, hb⟩; have n0_ := Aside0.mk (blk_below (g := gb491) (o := .cells #[.complex .f64 x492000_3.1 x492000_3.2, .complex .f64 x492001_3.1 x492001_3.2, .complex .f64 x492002_3.1 x492002_3.2, .complex .f64 x492003_3.1 x492003_3.2] 54 (0, 0)) (by (with_reducible repeat (first | refine blk_drewN ?_ _ | refine blk_drew ?_ | refine blk_alloc ?_ _)); exact BK491.out) hb); have n1_ := Aside0.mk (below_step (by repeat (first | (with_reducible first | exact HB.out | apply below_alloc | apply pw_below_drewN | apply below_drew1 | refine below_set ?_ GE491.out) | exact HB.out)) hb); clear BK491; clear HB; have BK491 := n0_; have HB := n1_; clear n0_ n1_; (try clear hb); (try clear hb2); (try clear hk); (try clear hi); have hcz46_0 : w45.cell? ⟨gb491, 0, none⟩ = some (.complex .f64 x492000_3.1 x492000_3.2) := (blk_cell BK491.out 0).trans rfl; have hcz46_1 : w45.cell? ⟨gb491, 1, none⟩ = some (.complex .f64 x492001_3.1 x492001_3.2) := (blk_cell BK491.out 1).trans rfl; have hcz46_2 : w45.cell? ⟨gb491, 2, none⟩ = some (.complex .f64 x492002_3.1 x492002_3.2) := (blk_cell BK491.out 2).trans rfl; have hcz46_3 : w45.cell? ⟨gb491, 3, none⟩ = some (.complex .f64 x492003_3.1 x492003_3.2) := (blk_cell BK491.out 3).trans rfl; have hfz46_0 := blk_frozen BK491.out 0; have hfz46_1 := blk_frozen BK491.out 1; have hfz46_2 := blk_frozen BK491.out 2; have hfz46_3 := blk_frozen BK491.out 3) | (go_at_call 26; (with_reducible refine (point_Has.calls k5 x492002_3 x492003_3 ((fOf (wrap64 ((Int.tmod x16_5 10) * 4)), fOf (wrap64 ((wrap64 (Int.tdiv x16_5 10)) * 4))) : C128) t509 t510 _ A40.out).mono ?_); rintro e w47 ⟨rfl, hb⟩; have n0_ := Aside0.mk (blk_below (g := gb491) (o := .cells #[.complex .f64 x492000_3.1 x492000_3.2, .complex .f64 x492001_3.1 x492001_3.2, .complex .f64 x492002_3.1 x492002_3.2, .complex .f64 x492003_3.1 x492003_3.2] 54 (0, 0)) (by (with_reducible repeat (first | refine blk_drewN ?_ _ | refine blk_drew ?_ | refine blk_alloc ?_ _)); exact BK491.out) hb); have n1_ := Aside0.mk (below_step (by repeat (first | (with_reducible first | exact HB.out | apply below_alloc | apply pw_below_drewN | apply below_drew1 | refine below_set ?_ GE491.out) | exact HB.out)) hb); clear BK491; clear HB; have BK491 := n0_; have HB := n1_; clear n0_ n1_; (try clear hb); (try clear hb2); (try clear hk); (try clear hi)) | (go_at_call 26; (with_reducible refine (point_Has.calls k5 t499 t500 ((fOf (wrap64 ((Int.tmod x16_5 10) * 4)), fOf (wrap64 ((wrap64 (Int.tdiv x16_5 10)) * 4))) : C128) t511 t512 _ A41.out).mono ?_); rintro e w48 ⟨rfl, hb⟩; have n0_ := Aside0.mk (blk_below (g := gb491) (o := .cells #[.complex .f64 x492000_3.1 x492000_3.2, .complex .f64 x492001_3.1 x492001_3.2, .complex .f64 x492002_3.1 x492002_3.2, .complex .f64 x492003_3.1 x492003_3.2] 54 (0, 0)) (by (with_reducible repeat (first | refine blk_drewN ?_ _ | refine blk_drew ?_ | refine blk_alloc ?_ _)); exact BK491.out) hb); have n1_ := Aside0.mk (below_step (by repeat (first | (with_reducible first | exact HB.out | apply below_alloc | apply pw_below_drewN | apply below_drew1 | refine below_set ?_ GE491.out) | exact HB.out)) hb); clear BK491; clear HB; have BK491 := n0_; have HB := n1_; clear n0_ n1_; (try clear hb); (try clear hb2); (try clear hk); (try clear hi)) | (go_at_call 26; (with_reducible refine (point_Has.calls k5 t502 t503 ((fOf (wrap64 ((Int.tmod x16_5 10) * 4)), fOf (wrap64 ((wrap64 (Int.tdiv x16_5 10)) * 4))) : C128) t513 t514 _ A42.out).mono ?_); rintro e w49 ⟨rfl, hb⟩; have n0_ := Aside0.mk (blk_below (g := gb491) (o := .cells #[.complex .f64 x492000_3.1 x492000_3.2, .complex .f64 x492001_3.1 x492001_3.2, .complex .f64 x492002_3.1 x492002_3.2, .complex .f64 x492003_3.1 x492003_3.2] 54 (0, 0)) (by (with_reducible repeat (first | refine blk_drewN ?_ _ | refine blk_drew ?_ | refine blk_alloc ?_ _)); exact BK491.out) hb); have n1_ := Aside0.mk (below_step (by repeat (first | (with_reducible first | exact HB.out | apply below_alloc | apply pw_below_drewN | apply below_drew1 | refine below_set ?_ GE491.out) | exact HB.out)) hb); clear BK491; clear HB; have BK491 := n0_; have HB := n1_; clear n0_ n1_; (try clear hb); (try clear hb2); (try clear hk); (try clear hi))); go_upto_region 25 with (first | (go_at_call 26; (with_reducible refine (point_Has.calls k5 x492000_3 x492001_3 ((fOf (wrap64 ((Int.tmod x16_5 10) * 4)), fOf (wrap64 ((wrap64 (Int.tdiv x16_5 10)) * 4))) : C128) t507 t508 _ A39.out).mono ?_); rintro e w45 ⟨rfl, hb⟩; have n0_ := Aside0.mk (blk_below (g := gb491) (o := .cells #[.complex .f64 x492000_3.1 x492000_3.2, .complex .f64 x492001_3.1 x492001_3.2, .complex .f64 x492002_3.1 x492002_3.2, .complex .f64 x492003_3.1 x492003_3.2] 54 (0, 0)) (by (with_reducible repeat (first | refine blk_drewN ?_ _ | refine blk_drew ?_ | refine blk_alloc ?_ _)); exact BK491.out) hb); have n1_ := Aside0.mk (below_step (by repeat (first | (with_reducible first | exact HB.out | apply below_alloc | apply pw_below_drewN | apply below_drew1 | refine below_set ?_ GE491.out) | exact HB.out)) hb); clear BK491; clear HB; have BK491 := n0_; have HB := n1_; clear n0_ n1_; (try clear hb); (try clear hb2); (try clear hk); (try clear hi); have hcz46_0 : w45.cell? ⟨gb491, 0, none⟩ = some (.complex .f64 x492000_3.1 x492000_3.2) := (blk_cell BK491.out 0).trans rfl; have hcz46_1 : w45.cell? ⟨gb491, 1, none⟩ = some (.complex .f64 x492001_3.1 x492001_3.2) := (blk_cell BK491.out 1).trans rfl; have hcz46_2 : w45.cell? ⟨gb491, 2, none⟩ = some (.complex .f64 x492002_3.1 x492002_3.2) := (blk_cell BK491.out 2).trans rfl; have hcz46_3 : w45.cell? ⟨gb491, 3, none⟩ = some (.complex .f64 x492003_3.1 x492003_3.2) := (blk_cell BK491.out 3).trans rfl; have hfz46_0 := blk_frozen BK491.out 0; have hfz46_1 := blk_frozen BK491.out 1; have hfz46_2 := blk_frozen BK491.out 2; have hfz46_3 := blk_frozen BK491.out 3) | (go_at_call 26; (with_reducible refine (point_Has.calls k5 x492002_3 x492003_3 ((fOf (wrap64 ((Int.tmod x16_5 10) * 4)), fOf (wrap64 ((wrap64 (Int.tdiv x16_5 10)) * 4))) : C128) t509 t510 _ A40.out).mono ?_); rintro e w47 ⟨rfl, hb⟩; have n0_ := Aside0.mk (blk_below (g := gb491) (o := .cells #[.complex .f64 x492000_3.1 x492000_3.2, .complex .f64 x492001_3.1 x492001_3.2, .complex .f64 x492002_3.1 x492002_3.2, .complex .f64 x492003_3.1 x492003_3.2] 54 (0, 0)) (by (with_reducible repeat (first | refine blk_drewN ?_ _ | refine blk_drew ?_ | refine blk_alloc ?_ _)); exact BK491.out) hb); have n1_ := Aside0.mk (below_step (by repeat (first | (with_reducible first | exact HB.out | apply below_alloc | apply pw_below_drewN | apply below_drew1 | refine below_set ?_ GE491.out) | exact HB.out)) hb); clear BK491; clear HB; have BK491 := n0_; have HB := n1_; clear n0_ n1_; (try clear hb); (try clear hb2); (try clear hk); (try clear hi)) | (go_at_call 26; (with_reducible refine (point_Has.calls k5 t499 t500 ((fOf (wrap64 ((Int.tmod x16_5 10) * 4)), fOf (wrap64 ((wrap64 (Int.tdiv x16_5 10)) * 4))) : C128) t511 t512 _ A41.out).mono ?_); rintro e w48 ⟨rfl, hb⟩; have n0_ := Aside0.mk (blk_below (g := gb491) (o := .cells #[.complex .f64 x492000_3.1 x492000_3.2, .complex .f64 x492001_3.1 x492001_3.2, .complex .f64 x492002_3.1 x492002_3.2, .complex .f64 x492003_3.1 x492003_3.2] 54 (0, 0)) (by (with_reducible repeat (first | refine blk_drewN ?_ _ | refine blk_drew ?_ | refine blk_alloc ?_ _)); exact BK491.out) hb); have n1_ := Aside0.mk (below_step (by repeat (first | (with_reducible first | exact HB.out | apply below_alloc | apply pw_below_drewN | apply below_drew1 | refine below_set ?_ GE491.out) | exact HB.out)) hb); clear BK491; clear HB; have BK491 := n0_; have HB := n1_; clear n0_ n1_; (try clear hb); (try clear hb2); (try clear hk); (try clear hi)) | (go_at_call 26; (with_reducible refine (point_Has.calls k5 t502 t503 ((fOf (wrap64 ((Int.tmod x16_5 10) * 4)), fOf (wrap64 ((wrap64 (Int.tdiv x16_5 10)) * 4))) : C128) t513 t514 _ A42.out).mono ?_); rintro e w49 ⟨rfl, hb⟩; have n0_ := Aside0.mk (blk_below (g := gb491) (o := .cells #[.complex .f64 x492000_3.1 x492000_3.2, .complex .f64 x492001_3.1 x492001_3.2, .complex .f64 x492002_3.1 x492002_3.2, .complex .f64 x492003_3.1 x492003_3.2] 54 (0, 0)) (by (with_reducible repeat (first | refine blk_drewN ?_ _ | refine blk_drew ?_ | refine blk_alloc ?_ _)); exact BK491.out) hb); have n1_ := Aside0.mk (below_step (by repeat (first | (with_reducible first | exact HB.out | apply below_alloc | apply pw_below_drewN | apply below_drew1 | refine below_set ?_ GE491.out) | exact HB.out)) hb); clear BK491; clear HB; have BK491 := n0_; have HB := n1_; clear n0_ n1_; (try clear hb); (try clear hb2); (try clear hk); (try clear hi))))
               (try simp only [Act.put, List.setIfInBounds_toArray, List.set_cons_zero, List.set_cons_succ])
               go_cut [184] (fun v184 wc => ∃ (kq : Nat) (x184_42 : Bool), v184 = .bool x184_42 ∧ Aside0 (arraslaw3_PointBoth.j5 kq l0 x3_1 t499 t500 t502 t503 x16_5 x184_42 x492000_3 x492001_3 x492002_3 x492003_3 = some r) ∧ Aside0 (kq ≤ k5) ∧ Aside0 (wc.heap[gb491]? = some (.cells #[.complex .f64 x492000_3.1 x492000_3.2, .complex .f64 x492001_3.1 x492001_3.2, .complex .f64 x492002_3.1 x492002_3.2, .complex .f64 x492003_3.1 x492003_3.2] 54 (0, 0))) ∧ Aside0 (Below w.heap.size w wc))
               case first => as_aux_lemma =>
                have H := HC43.out
                clear HC43
                replace H := Option.bind_eq_some_iff.mp H
                obtain ⟨t515, A500, H⟩ := H
                replace H : (if t515 = 0 then ((arraslaw3_num.f t510).bind fun t516 => (if t516 = 0 then ((arraslaw3_num.f t512).bind fun t517 => (if t517 = 0 then ((arraslaw3_num.f t514).bind fun t518 => (if t518 = 0 then (if t507 = true then (if (t513 != t509) = true then (arraslaw3_PointBoth.j5 k5 l0 x3_1 t499 t500 t502 t503 x16_5 true x492000_3 x492001_3 x492002_3 x492003_3) else (arraslaw3_PointBoth.j5 k5 l0 x3_1 t499 t500 t502 t503 x16_5 (!t511) x492000_3 x492001_3 x492002_3 x492003_3)) else (if (t513 != false) = true then (arraslaw3_PointBoth.j5 k5 l0 x3_1 t499 t500 t502 t503 x16_5 true x492000_3 x492001_3 x492002_3 x492003_3) else (if t509 = true then (arraslaw3_PointBoth.j5 k5 l0 x3_1 t499 t500 t502 t503 x16_5 (!t511) x492000_3 x492001_3 x492002_3 x492003_3) else (arraslaw3_PointBoth.j5 k5 l0 x3_1 t499 t500 t502 t503 x16_5 false x492000_3 x492001_3 x492002_3 x492003_3)))) else (arraslaw3_PointBoth.j5 k5 l0 x3_1 t499 t500 t502 t503 x16_5 true x492000_3 x492001_3 x492002_3 x492003_3))) else (arraslaw3_PointBoth.j5 k5 l0 x3_1 t499 t500 t502 t503 x16_5 true x492000_3 x492001_3 x492002_3 x492003_3))) else (arraslaw3_PointBoth.j5 k5 l0 x3_1 t499 t500 t502 t503 x16_5 true x492000_3 x492001_3 x492002_3 x492003_3))) else (arraslaw3_PointBoth.j5 k5 l0 x3_1 t499 t500 t502 t503 x16_5 true x492000_3 x492001_3 x492002_3 x492003_3)) = some r := H
                have A50 := Aside0.mk A500; clear A500
                by_cases c51 : t515 = 0
                ·rw [if_pos c51] at H
                 have c51b0 : (t515 == 0) = true := beq_iff_eq.mpr c51
                 have c51b1 : (t515 != 0) = false := bne_eq_false_iff_eq.mpr c51
                 clear c51
                 (first | rw [c51b0] | (simp only [i64_w, i32_w]; rw [c51b0]) | skip)
                 replace H := Option.bind_eq_some_iff.mp H
                 obtain ⟨t516, A520, H⟩ := H
                 replace H : (if t516 = 0 then ((arraslaw3_num.f t512).bind fun t517 => (if t517 = 0 then ((arraslaw3_num.f t514).bind fun t518 => (if t518 = 0 then (if t507 = true then (if (t513 != t509) = true then (arraslaw3_PointBoth.j5 k5 l0 x3_1 t499 t500 t502 t503 x16_5 true x492000_3 x492001_3 x492002_3 x492003_3) else (arraslaw3_PointBoth.j5 k5 l0 x3_1 t499 t500 t502 t503 x16_5 (!t511) x492000_3 x492001_3 x492002_3 x492003_3)) else (if (t513 != false) = true then (arraslaw3_PointBoth.j5 k5 l0 x3_1 t499 t500 t502 t503 x16_5 true x492000_3 x492001_3 x492002_3 x492003_3) else (if t509 = true then (arraslaw3_PointBoth.j5 k5 l0 x3_1 t499 t500 t502 t503 x16_5 (!t511) x492000_3 x492001_3 x492002_3 x492003_3) else (arraslaw3_PointBoth.j5 k5 l0 x3_1 t499 t500 t502 t503 x16_5 false x492000_3 x492001_3 x492002_3 x492003_3)))) else (arraslaw3_PointBoth.j5 k5 l0 x3_1 t499 t500 t502 t503 x16_5 true x492000_3 x492001_3 x492002_3 x492003_3))) else (arraslaw3_PointBoth.j5 k5 l0 x3_1 t499 t500 t502 t503 x16_5 true x492000_3 x492001_3 x492002_3 x492003_3))) else (arraslaw3_PointBoth.j5 k5 l0 x3_1 t499 t500 t502 t503 x16_5 true x492000_3 x492001_3 x492002_3 x492003_3)) = some r := H
                 have A52 := Aside0.mk A520; clear A520
                 by_cases c53 : t516 = 0
                 ·rw [if_pos c53] at H
                  have c53b0 : (t516 == 0) = true := beq_iff_eq.mpr c53
                  have c53b1 : (t516 != 0) = false := bne_eq_false_iff_eq.mpr c53
                  clear c53
                  replace H := Option.bind_eq_some_iff.mp H
                  obtain ⟨t517, A540, H⟩ := H
                  replace H : (if t517 = 0 then ((arraslaw3_num.f t514).bind fun t518 => (if t518 = 0 then (if t507 = true then (if (t513 != t509) = true then (arraslaw3_PointBoth.j5 k5 l0 x3_1 t499 t500 t502 t503 x16_5 true x492000_3 x492001_3 x492002_3 x492003_3) else (arraslaw3_PointBoth.j5 k5 l0 x3_1 t499 t500 t502 t503 x16_5 (!t511) x492000_3 x492001_3 x492002_3 x492003_3)) else (if (t513 != false) = true then (arraslaw3_PointBoth.j5 k5 l0 x3_1 t499 t500 t502 t503 x16_5 true x492000_3 x492001_3 x492002_3 x492003_3) else (if t509 = true then (arraslaw3_PointBoth.j5 k5 l0 x3_1 t499 t500 t502 t503 x16_5 (!t511) x492000_3 x492001_3 x492002_3 x492003_3) else (arraslaw3_PointBoth.j5 k5 l0 x3_1 t499 t500 t502 t503 x16_5 false x492000_3 x492001_3 x492002_3 x492003_3)))) else (arraslaw3_PointBoth.j5 k5 l0 x3_1 t499 t500 t502 t503 x16_5 true x492000_3 x492001_3 x492002_3 x492003_3))) else (arraslaw3_PointBoth.j5 k5 l0 x3_1 t499 t500 t502 t503 x16_5 true x492000_3 x492001_3 x492002_3 x492003_3)) = some r := H
                  have A54 := Aside0.mk A540; clear A540
                  by_cases c55 : t517 = 0
                  ·rw [if_pos c55] at H
                   have c55b0 : (t517 == 0) = true := beq_iff_eq.mpr c55
                   have c55b1 : (t517 != 0) = false := bne_eq_false_iff_eq.mpr c55
                   clear c55
                   replace H := Option.bind_eq_some_iff.mp H
                   obtain ⟨t518, A560, H⟩ := H
                   replace H : (if t518 = 0 then (if t507 = true then (if (t513 != t509) = true then (arraslaw3_PointBoth.j5 k5 l0 x3_1 t499 t500 t502 t503 x16_5 true x492000_3 x492001_3 x492002_3 x492003_3) else (arraslaw3_PointBoth.j5 k5 l0 x3_1 t499 t500 t502 t503 x16_5 (!t511) x492000_3 x492001_3 x492002_3 x492003_3)) else (if (t513 != false) = true then (arraslaw3_PointBoth.j5 k5 l0 x3_1 t499 t500 t502 t503 x16_5 true x492000_3 x492001_3 x492002_3 x492003_3) else (if t509 = true then (arraslaw3_PointBoth.j5 k5 l0 x3_1 t499 t500 t502 t503 x16_5 (!t511) x492000_3 x492001_3 x492002_3 x492003_3) else (arraslaw3_PointBoth.j5 k5 l0 x3_1 t499 t500 t502 t503 x16_5 false x492000_3 x492001_3 x492002_3 x492003_3)))) else (arraslaw3_PointBoth.j5 k5 l0 x3_1 t499 t500 t502 t503 x16_5 true x492000_3 x492001_3 x492002_3 x492003_3)) = some r := H
                   have A56 := Aside0.mk A560; clear A560
                   by_cases c57 : t518 = 0
                   ·rw [if_pos c57] at H
                    have c57b0 : (t518 == 0) = true := beq_iff_eq.mpr c57
                    have c57b1 : (t518 != 0) = false := bne_eq_false_iff_eq.mpr c57
                    clear c57
                    by_cases c58 : t507 = true
                    ·subst c58
                     have H1 : (if (t513 != t509) = true then (arraslaw3_PointBoth.j5 k5 l0 x3_1 t499 t500 t502 t503 x16_5 true x492000_3 x492001_3 x492002_3 x492003_3) else (arraslaw3_PointBoth.j5 k5 l0 x3_1 t499 t500 t502 t503 x16_5 (!t511) x492000_3 x492001_3 x492002_3 x492003_3)) = some r := by rw [if_pos rfl] at H; exact H
                     clear H; have H := H1; clear H1
                     by_cases c59 : (t513 != t509) = true
                     ·rw [if_pos c59] at H
                      have c59b0 : (t513 != t509) = true := c59
                      (try (have c59b1 : decide (t513 = t509) = false := by simpa using c59))
                      (try (have c59b2 : (t513 == t509) = false := by simpa using c59))
                      (try (have c59b3 : ¬ (t513 = t509) := by simpa using c59))
                      clear c59
                      have H' := Aside0.mk H
                      clear H
                      go_wp2_with (first | (go_at_call 17; (with_reducible refine (arraslaw3_num.calls t508 t515 _ A50.out).mono ?_); rintro e w' ⟨rfl, ⟨nd, rfl⟩⟩; (try first | exact ⟨rfl, _, World.drewN_drewN _ _ _⟩ | exact ⟨rfl, _, Eq.trans (World.drewN_drewN _ _ _) (congrArg (World.drewN _) (Nat.add_assoc _ _ _))⟩)) | (go_at_call 17; (with_reducible refine (arraslaw3_num.calls t510 t516 _ A52.out).mono ?_); rintro e w' ⟨rfl, ⟨nd, rfl⟩⟩; (try first | exact ⟨rfl, _, World.drewN_drewN _ _ _⟩ | exact ⟨rfl, _, Eq.trans (World.drewN_drewN _ _ _) (congrArg (World.drewN _) (Nat.add_assoc _ _ _))⟩)) | (go_at_call 17; (with_reducible refine (arraslaw3_num.calls t512 t517 _ A54.out).mono ?_); rintro e w' ⟨rfl, ⟨nd, rfl⟩⟩; (try first | exact ⟨rfl, _, World.drewN_drewN _ _ _⟩ | exact ⟨rfl, _, Eq.trans (World.drewN_drewN _ _ _) (congrArg (World.drewN _) (Nat.add_assoc _ _ _))⟩)) | (go_at_call 17; (with_reducible refine (arraslaw3_num.calls t514 t518 _ A56.out).mono ?_); rintro e w' ⟨rfl, ⟨nd, rfl⟩⟩; (try first | exact ⟨rfl, _, World.drewN_drewN _ _ _⟩ | exact ⟨rfl, _, Eq.trans (World.drewN_drewN _ _ _) (congrArg (World.drewN _) (Nat.add_assoc _ _ _))⟩)))
                      repeat (go_quiet (first | (go_at_call 17; (with_reducible refine (arraslaw3_num.calls t508 t515 _ A50.out).mono ?_); rintro e w' ⟨rfl, ⟨nd, rfl⟩⟩; (try first | exact ⟨rfl, _, World.drewN_drewN _ _ _⟩ | exact ⟨rfl, _, Eq.trans (World.drewN_drewN _ _ _) (congrArg (World.drewN _) (Nat.add_assoc _ _ _))⟩)) | (go_at_call 17; (with_reducible refine (arraslaw3_num.calls t510 t516 _ A52.out).mono ?_); rintro e w' ⟨rfl, ⟨nd, rfl⟩⟩; (try first | exact ⟨rfl, _, World.drewN_drewN _ _ _⟩ | exact ⟨rfl, _, Eq.trans (World.drewN_drewN _ _ _) (congrArg (World.drewN _) (Nat.add_assoc _ _ _))⟩)) | (go_at_call 17; (with_reducible refine (arraslaw3_num.calls t512 t517 _ A54.out).mono ?_); rintro e w' ⟨rfl, ⟨nd, rfl⟩⟩; (try first | exact ⟨rfl, _, World.drewN_drewN _ _ _⟩ | exact ⟨rfl, _, Eq.trans (World.drewN_drewN _ _ _) (congrArg (World.drewN _) (Nat.add_assoc _ _ _))⟩)) | (go_at_call 17; (with_reducible refine (arraslaw3_num.calls t514 t518 _ A56.out).mono ?_); rintro e w' ⟨rfl, ⟨nd, rfl⟩⟩; (try first | exact ⟨rfl, _, World.drewN_drewN _ _ _⟩ | exact ⟨rfl, _, Eq.trans (World.drewN_drewN _ _ _) (congrArg (World.drewN _) (Nat.add_assoc _ _ _))⟩))); try go_wp2_with (first | (go_at_call 17; (with_reducible refine (arraslaw3_num.calls t508 t515 _ A50.out).mono ?_); rintro e w' ⟨rfl, ⟨nd, rfl⟩⟩; (try first | exact ⟨rfl, _, World.drewN_drewN _ _ _⟩ | exact ⟨rfl, _, Eq.trans (World.drewN_drewN _ _ _) (congrArg (World.drewN _) (Nat.add_assoc _ _ _))⟩)) | (go_at_call 17; (with_reducible refine (arraslaw3_num.calls t510 t516 _ A52.out).mono ?_); rintro e w' ⟨rfl, ⟨nd, rfl⟩⟩; (try first | exact ⟨rfl, _, World.drewN_drewN _ _ _⟩ | exact ⟨rfl, _, Eq.trans (World.drewN_drewN _ _ _) (congrArg (World.drewN _) (Nat.add_assoc _ _ _))⟩)) | (go_at_call 17; (with_reducible refine (arraslaw3_num.calls t512 t517 _ A54.out).mono ?_); rintro e w' ⟨rfl, ⟨nd, rfl⟩⟩; (try first | exact ⟨rfl, _, World.drewN_drewN _ _ _⟩ | exact ⟨rfl, _, Eq.trans (World.drewN_drewN _ _ _) (congrArg (World.drewN _) (Nat.add_assoc _ _ _))⟩)) | (go_at_call 17; (with_reducible refine (arraslaw3_num.calls t514 t518 _ A56.out).mono ?_); rintro e w' ⟨rfl, ⟨nd, rfl⟩⟩; (try first | exact ⟨rfl, _, World.drewN_drewN _ _ _⟩ | exact ⟨rfl, _, Eq.trans (World.drewN_drewN _ _ _) (congrArg (World.drewN _) (Nat.add_assoc _ _ _))⟩))))
                      go_meet
                      case rel => exact ⟨_, (true), (by first | rfl | (simp; done) | (simp [*]; done)), H', ⟨by have := HK1.out; have := HJ1.out; have := HK3.out; have := HJ28.out; have := HK5.out; first | omega | exact Nat.le_refl _⟩, ⟨by (with_reducible repeat (first | refine blk_drewN ?_ _ | refine blk_drew ?_ | refine blk_alloc ?_ _)); exact BK491.out⟩, ⟨by repeat (first | (with_reducible first | exact HB.out | apply below_alloc | apply pw_below_drewN | apply below_drew1 | refine below_set ?_ GE491.out) | exact HB.out)⟩⟩
                     ·rw [if_neg c59] at H
                      have c59b0 : (t513 != t509) = false := by simpa using c59
                      (try (have c59b1 : decide (t513 = t509) = true := by simpa using c59))
                      (try (have c59b2 : (t513 == t509) = true := by simpa using c59))
                      clear c59
                      have H' := Aside0.mk H
                      clear H
                      go_wp2_with (first | (go_at_call 17; (with_reducible refine (arraslaw3_num.calls t508 t515 _ A50.out).mono ?_); rintro e w' ⟨rfl, ⟨nd, rfl⟩⟩; (try first | exact ⟨rfl, _, World.drewN_drewN _ _ _⟩ | exact ⟨rfl, _, Eq.trans (World.drewN_drewN _ _ _) (congrArg (World.drewN _) (Nat.add_assoc _ _ _))⟩)) | (go_at_call 17; (with_reducible refine (arraslaw3_num.calls t510 t516 _ A52.out).mono ?_); rintro e w' ⟨rfl, ⟨nd, rfl⟩⟩; (try first | exact ⟨rfl, _, World.drewN_drewN _ _ _⟩ | exact ⟨rfl, _, Eq.trans (World.drewN_drewN _ _ _) (congrArg (World.drewN _) (Nat.add_assoc _ _ _))⟩)) | (go_at_call 17; (with_reducible refine (arraslaw3_num.calls t512 t517 _ A54.out).mono ?_); rintro e w' ⟨rfl, ⟨nd, rfl⟩⟩; (try first | exact ⟨rfl, _, World.drewN_drewN _ _ _⟩ | exact ⟨rfl, _, Eq.trans (World.drewN_drewN _ _ _) (congrArg (World.drewN _) (Nat.add_assoc _ _ _))⟩)) | (go_at_call 17; (with_reducible refine (arraslaw3_num.calls t514 t518 _ A56.out).mono ?_); rintro e w' ⟨rfl, ⟨nd, rfl⟩⟩; (try first | exact ⟨rfl, _, World.drewN_drewN _ _ _⟩ | exact ⟨rfl, _, Eq.trans (World.drewN_drewN _ _ _) (congrArg (World.drewN _) (Nat.add_assoc _ _ _))⟩)))
                      repeat (go_quiet (first | (go_at_call 17; (with_reducible refine (arraslaw3_num.calls t508 t515 _ A50.out).mono ?_); rintro e w' ⟨rfl, ⟨nd, rfl⟩⟩; (try first | exact ⟨rfl, _, World.drewN_drewN _ _ _⟩ | exact ⟨rfl, _, Eq.trans (World.drewN_drewN _ _ _) (congrArg (World.drewN _) (Nat.add_assoc _ _ _))⟩)) | (go_at_call 17; (with_reducible refine (arraslaw3_num.calls t510 t516 _ A52.out).mono ?_); rintro e w' ⟨rfl, ⟨nd, rfl⟩⟩; (try first | exact ⟨rfl, _, World.drewN_drewN _ _ _⟩ | exact ⟨rfl, _, Eq.trans (World.drewN_drewN _ _ _) (congrArg (World.drewN _) (Nat.add_assoc _ _ _))⟩)) | (go_at_call 17; (with_reducible refine (arraslaw3_num.calls t512 t517 _ A54.out).mono ?_); rintro e w' ⟨rfl, ⟨nd, rfl⟩⟩; (try first | exact ⟨rfl, _, World.drewN_drewN _ _ _⟩ | exact ⟨rfl, _, Eq.trans (World.drewN_drewN _ _ _) (congrArg (World.drewN _) (Nat.add_assoc _ _ _))⟩)) | (go_at_call 17; (with_reducible refine (arraslaw3_num.calls t514 t518 _ A56.out).mono ?_); rintro e w' ⟨rfl, ⟨nd, rfl⟩⟩; (try first | exact ⟨rfl, _, World.drewN_drewN _ _ _⟩ | exact ⟨rfl, _, Eq.trans (World.drewN_drewN _ _ _) (congrArg (World.drewN _) (Nat.add_assoc _ _ _))⟩))); try go_wp2_with (first | (go_at_call 17; (with_reducible refine (arraslaw3_num.calls t508 t515 _ A50.out).mono ?_); rintro e w' ⟨rfl, ⟨nd, rfl⟩⟩; (try first | exact ⟨rfl, _, World.drewN_drewN _ _ _⟩ | exact ⟨rfl, _, Eq.trans (World.drewN_drewN _ _ _) (congrArg (World.drewN _) (Nat.add_assoc _ _ _))⟩)) | (go_at_call 17; (with_reducible refine (arraslaw3_num.calls t510 t516 _ A52.out).mono ?_); rintro e w' ⟨rfl, ⟨nd, rfl⟩⟩; (try first | exact ⟨rfl, _, World.drewN_drewN _ _ _⟩ | exact ⟨rfl, _, Eq.trans (World.drewN_drewN _ _ _) (congrArg (World.drewN _) (Nat.add_assoc _ _ _))⟩)) | (go_at_call 17; (with_reducible refine (arraslaw3_num.calls t512 t517 _ A54.out).mono ?_); rintro e w' ⟨rfl, ⟨nd, rfl⟩⟩; (try first | exact ⟨rfl, _, World.drewN_drewN _ _ _⟩ | exact ⟨rfl, _, Eq.trans (World.drewN_drewN _ _ _) (congrArg (World.drewN _) (Nat.add_assoc _ _ _))⟩)) | (go_at_call 17; (with_reducible refine (arraslaw3_num.calls t514 t518 _ A56.out).mono ?_); rintro e w' ⟨rfl, ⟨nd, rfl⟩⟩; (try first | exact ⟨rfl, _, World.drewN_drewN _ _ _⟩ | exact ⟨rfl, _, Eq.trans (World.drewN_drewN _ _ _) (congrArg (World.drewN _) (Nat.add_assoc _ _ _))⟩))))
                      go_meet
                      case rel => exact ⟨_, (!t511), (by first | rfl | (simp; done) | (simp [*]; done)), H', ⟨by have := HK1.out; have := HJ1.out; have := HK3.out; have := HJ28.out; have := HK5.out; first | omega | exact Nat.le_refl _⟩, ⟨by (with_reducible repeat (first | refine blk_drewN ?_ _ | refine blk_drew ?_ | refine blk_alloc ?_ _)); exact BK491.out⟩, ⟨by repeat (first | (with_reducible first | exact HB.out | apply below_alloc | apply pw_below_drewN | apply below_drew1 | refine below_set ?_ GE491.out) | exact HB.out)⟩⟩
                    ·replace c58 := Bool.eq_false_iff.mpr c58
                     subst c58
                     have H1 : (if (t513 != false) = true then (arraslaw3_PointBoth.j5 k5 l0 x3_1 t499 t500 t502 t503 x16_5 true x492000_3 x492001_3 x492002_3 x492003_3) else (if t509 = true then (arraslaw3_PointBoth.j5 k5 l0 x3_1 t499 t500 t502 t503 x16_5 (!t511) x492000_3 x492001_3 x492002_3 x492003_3) else (arraslaw3_PointBoth.j5 k5 l0 x3_1 t499 t500 t502 t503 x16_5 false x492000_3 x492001_3 x492002_3 x492003_3))) = some r := by rw [if_neg (show ¬ (false = true) by decide)] at H; exact H
                     clear H; have H := H1; clear H1
                     by_cases c60 : (t513 != false) = true
                     ·rw [if_pos c60] at H
                      obtain rfl : t513 = true := by simpa using c60
                      (try (have c60b0 : (t513 != false) = true := c60))
                      (try (have c60b1 : decide (t513 = false) = false := by simpa using c60))
                      (try (have c60b2 : (t513 == false) = false := by simpa using c60))
                      (try (have c60b3 : ¬ (t513 = false) := by simpa using c60))
                      clear c60
                      have H' := Aside0.mk H
                      clear H
                      go_wp2_with (first | (go_at_call 17; (with_reducible refine (arraslaw3_num.calls t508 t515 _ A50.out).mono ?_); rintro e w' ⟨rfl, ⟨nd, rfl⟩⟩; (try first | exact ⟨rfl, _, World.drewN_drewN _ _ _⟩ | exact ⟨rfl, _, Eq.trans (World.drewN_drewN _ _ _) (congrArg (World.drewN _) (Nat.add_assoc _ _ _))⟩)) | (go_at_call 17; (with_reducible refine (arraslaw3_num.calls t510 t516 _ A52.out).mono ?_); rintro e w' ⟨rfl, ⟨nd, rfl⟩⟩; (try first | exact ⟨rfl, _, World.drewN_drewN _ _ _⟩ | exact ⟨rfl, _, Eq.trans (World.drewN_drewN _ _ _) (congrArg (World.drewN _) (Nat.add_assoc _ _ _))⟩)) | (go_at_call 17; (with_reducible refine (arraslaw3_num.calls t512 t517 _ A54.out).mono ?_); rintro e w' ⟨rfl, ⟨nd, rfl⟩⟩; (try first | exact ⟨rfl, _, World.drewN_drewN _ _ _⟩ | exact ⟨rfl, _, Eq.trans (World.drewN_drewN _ _ _) (congrArg (World.drewN _) (Nat.add_assoc _ _ _))⟩)) | (go_at_call 17; (with_reducible refine (arraslaw3_num.calls t514 t518 _ A56.out).mono ?_); rintro e w' ⟨rfl, ⟨nd, rfl⟩⟩; (try first | exact ⟨rfl, _, World.drewN_drewN _ _ _⟩ | exact ⟨rfl, _, Eq.trans (World.drewN_drewN _ _ _) (congrArg (World.drewN _) (Nat.add_assoc _ _ _))⟩)))
                      repeat (go_quiet (first | (go_at_call 17; (with_reducible refine (arraslaw3_num.calls t508 t515 _ A50.out).mono ?_); rintro e w' ⟨rfl, ⟨nd, rfl⟩⟩; (try first | exact ⟨rfl, _, World.drewN_drewN _ _ _⟩ | exact ⟨rfl, _, Eq.trans (World.drewN_drewN _ _ _) (congrArg (World.drewN _) (Nat.add_assoc _ _ _))⟩)) | (go_at_call 17; (with_reducible refine (arraslaw3_num.calls t510 t516 _ A52.out).mono ?_); rintro e w' ⟨rfl, ⟨nd, rfl⟩⟩; (try first | exact ⟨rfl, _, World.drewN_drewN _ _ _⟩ | exact ⟨rfl, _, Eq.trans (World.drewN_drewN _ _ _) (congrArg (World.drewN _) (Nat.add_assoc _ _ _))⟩)) | (go_at_call 17; (with_reducible refine (arraslaw3_num.calls t512 t517 _ A54.out).mono ?_); rintro e w' ⟨rfl, ⟨nd, rfl⟩⟩; (try first | exact ⟨rfl, _, World.drewN_drewN _ _ _⟩ | exact ⟨rfl, _, Eq.trans (World.drewN_drewN _ _ _) (congrArg (World.drewN _) (Nat.add_assoc _ _ _))⟩)) | (go_at_call 17; (with_reducible refine (arraslaw3_num.calls t514 t518 _ A56.out).mono ?_); rintro e w' ⟨rfl, ⟨nd, rfl⟩⟩; (try first | exact ⟨rfl, _, World.drewN_drewN _ _ _⟩ | exact ⟨rfl, _, Eq.trans (World.drewN_drewN _ _ _) (congrArg (World.drewN _) (Nat.add_assoc _ _ _))⟩))); try go_wp2_with (first | (go_at_call 17; (with_reducible refine (arraslaw3_num.calls t508 t515 _ A50.out).mono ?_); rintro e w' ⟨rfl, ⟨nd, rfl⟩⟩; (try first | exact ⟨rfl, _, World.drewN_drewN _ _ _⟩ | exact ⟨rfl, _, Eq.trans (World.drewN_drewN _ _ _) (congrArg (World.drewN _) (Nat.add_assoc _ _ _))⟩)) | (go_at_call 17; (with_reducible refine (arraslaw3_num.calls t510 t516 _ A52.out).mono ?_); rintro e w' ⟨rfl, ⟨nd, rfl⟩⟩; (try first | exact ⟨rfl, _, World.drewN_drewN _ _ _⟩ | exact ⟨rfl, _, Eq.trans (World.drewN_drewN _ _ _) (congrArg (World.drewN _) (Nat.add_assoc _ _ _))⟩)) | (go_at_call 17; (with_reducible refine (arraslaw3_num.calls t512 t517 _ A54.out).mono ?_); rintro e w' ⟨rfl, ⟨nd, rfl⟩⟩; (try first | exact ⟨rfl, _, World.drewN_drewN _ _ _⟩ | exact ⟨rfl, _, Eq.trans (World.drewN_drewN _ _ _) (congrArg (World.drewN _) (Nat.add_assoc _ _ _))⟩)) | (go_at_call 17; (with_reducible refine (arraslaw3_num.calls t514 t518 _ A56.out).mono ?_); rintro e w' ⟨rfl, ⟨nd, rfl⟩⟩; (try first | exact ⟨rfl, _, World.drewN_drewN _ _ _⟩ | exact ⟨rfl, _, Eq.trans (World.drewN_drewN _ _ _) (congrArg (World.drewN _) (Nat.add_assoc _ _ _))⟩))))
                      go_meet
                      case rel => exact ⟨_, (true), (by first | rfl | (simp; done) | (simp [*]; done)), H', ⟨by have := HK1.out; have := HJ1.out; have := HK3.out; have := HJ28.out; have := HK5.out; first | omega | exact Nat.le_refl _⟩, ⟨by (with_reducible repeat (first | refine blk_drewN ?_ _ | refine blk_drew ?_ | refine blk_alloc ?_ _)); exact BK491.out⟩, ⟨by repeat (first | (with_reducible first | exact HB.out | apply below_alloc | apply pw_below_drewN | apply below_drew1 | refine below_set ?_ GE491.out) | exact HB.out)⟩⟩
                     ·rw [if_neg c60] at H
                      have c60b0 : (t513 != false) = false := by simpa using c60
                      (try (have c60b1 : decide (t513 = false) = true := by simpa using c60))
                      (try (have c60b2 : (t513 == false) = true := by simpa using c60))
                      clear c60
                      by_cases c61 : t509 = true
                      ·subst c61
                       have H1 : (arraslaw3_PointBoth.j5 k5 l0 x3_1 t499 t500 t502 t503 x16_5 (!t511) x492000_3 x492001_3 x492002_3 x492003_3) = some r := by rw [if_pos rfl] at H; exact H
                       clear H; have H := H1; clear H1
                       have H' := Aside0.mk H
                       clear H
                       go_wp2_with (first | (go_at_call 17; (with_reducible refine (arraslaw3_num.calls t508 t515 _ A50.out).mono ?_); rintro e w' ⟨rfl, ⟨nd, rfl⟩⟩; (try first | exact ⟨rfl, _, World.drewN_drewN _ _ _⟩ | exact ⟨rfl, _, Eq.trans (World.drewN_drewN _ _ _) (congrArg (World.drewN _) (Nat.add_assoc _ _ _))⟩)) | (go_at_call 17; (with_reducible refine (arraslaw3_num.calls t510 t516 _ A52.out).mono ?_); rintro e w' ⟨rfl, ⟨nd, rfl⟩⟩; (try first | exact ⟨rfl, _, World.drewN_drewN _ _ _⟩ | exact ⟨rfl, _, Eq.trans (World.drewN_drewN _ _ _) (congrArg (World.drewN _) (Nat.add_assoc _ _ _))⟩)) | (go_at_call 17; (with_reducible refine (arraslaw3_num.calls t512 t517 _ A54.out).mono ?_); rintro e w' ⟨rfl, ⟨nd, rfl⟩⟩; (try first | exact ⟨rfl, _, World.drewN_drewN _ _ _⟩ | exact ⟨rfl, _, Eq.trans (World.drewN_drewN _ _ _) (congrArg (World.drewN _) (Nat.add_assoc _ _ _))⟩)) | (go_at_call 17; (with_reducible refine (arraslaw3_num.calls t514 t518 _ A56.out).mono ?_); rintro e w' ⟨rfl, ⟨nd, rfl⟩⟩; (try first | exact ⟨rfl, _, World.drewN_drewN _ _ _⟩ | exact ⟨rfl, _, Eq.trans (World.drewN_drewN _ _ _) (congrArg (World.drewN _) (Nat.add_assoc _ _ _))⟩)))
                       repeat (go_quiet (first | (go_at_call 17; (with_reducible refine (arraslaw3_num.calls t508 t515 _ A50.out).mono ?_); rintro e w' ⟨rfl, ⟨nd, rfl⟩⟩; (try first | exact ⟨rfl, _, World.drewN_drewN _ _ _⟩ | exact ⟨rfl, _, Eq.trans (World.drewN_drewN _ _ _) (congrArg (World.drewN _) (Nat.add_assoc _ _ _))⟩)) | (go_at_call 17; (with_reducible refine (arraslaw3_num.calls t510 t516 _ A52.out).mono ?_); rintro e w' ⟨rfl, ⟨nd, rfl⟩⟩; (try first | exact ⟨rfl, _, World.drewN_drewN _ _ _⟩ | exact ⟨rfl, _, Eq.trans (World.drewN_drewN _ _ _) (congrArg (World.drewN _) (Nat.add_assoc _ _ _))⟩)) | (go_at_call 17; (with_reducible refine (arraslaw3_num.calls t512 t517 _ A54.out).mono ?_); rintro e w' ⟨rfl, ⟨nd, rfl⟩⟩; (try first | exact ⟨rfl, _, World.drewN_drewN _ _ _⟩ | exact ⟨rfl, _, Eq.trans (World.drewN_drewN _ _ _) (congrArg (World.drewN _) (Nat.add_assoc _ _ _))⟩)) | (go_at_call 17; (with_reducible refine (arraslaw3_num.calls t514 t518 _ A56.out).mono ?_); rintro e w' ⟨rfl, ⟨nd, rfl⟩⟩; (try first | exact ⟨rfl, _, World.drewN_drewN _ _ _⟩ | exact ⟨rfl, _, Eq.trans (World.drewN_drewN _ _ _) (congrArg (World.drewN _) (Nat.add_assoc _ _ _))⟩))); try go_wp2_with (first | (go_at_call 17; (with_reducible refine (arraslaw3_num.calls t508 t515 _ A50.out).mono ?_); rintro e w' ⟨rfl, ⟨nd, rfl⟩⟩; (try first | exact ⟨rfl, _, World.drewN_drewN _ _ _⟩ | exact ⟨rfl, _, Eq.trans (World.drewN_drewN _ _ _) (congrArg (World.drewN _) (Nat.add_assoc _ _ _))⟩)) | (go_at_call 17; (with_reducible refine (arraslaw3_num.calls t510 t516 _ A52.out).mono ?_); rintro e w' ⟨rfl, ⟨nd, rfl⟩⟩; (try first | exact ⟨rfl, _, World.drewN_drewN _ _ _⟩ | exact ⟨rfl, _, Eq.trans (World.drewN_drewN _ _ _) (congrArg (World.drewN _) (Nat.add_assoc _ _ _))⟩)) | (go_at_call 17; (with_reducible refine (arraslaw3_num.calls t512 t517 _ A54.out).mono ?_); rintro e w' ⟨rfl, ⟨nd, rfl⟩⟩; (try first | exact ⟨rfl, _, World.drewN_drewN _ _ _⟩ | exact ⟨rfl, _, Eq.trans (World.drewN_drewN _ _ _) (congrArg (World.drewN _) (Nat.add_assoc _ _ _))⟩)) | (go_at_call 17; (with_reducible refine (arraslaw3_num.calls t514 t518 _ A56.out).mono ?_); rintro e w' ⟨rfl, ⟨nd, rfl⟩⟩; (try first | exact ⟨rfl, _, World.drewN_drewN _ _ _⟩ | exact ⟨rfl, _, Eq.trans (World.drewN_drewN _ _ _) (congrArg (World.drewN _) (Nat.add_assoc _ _ _))⟩))))
                       go_meet
                       case rel => exact ⟨_, (!t511), (by first | rfl | (simp; done) | (simp [*]; done)), H', ⟨by have := HK1.out; have := HJ1.out; have := HK3.out; have := HJ28.out; have := HK5.out; first | omega | exact Nat.le_refl _⟩, ⟨by (with_reducible repeat (first | refine blk_drewN ?_ _ | refine blk_drew ?_ | refine blk_alloc ?_ _)); exact BK491.out⟩, ⟨by repeat (first | (with_reducible first | exact HB.out | apply below_alloc | apply pw_below_drewN | apply below_drew1 | refine below_set ?_ GE491.out) | exact HB.out)⟩⟩
                      ·replace c61 := Bool.eq_false_iff.mpr c61
                       subst c61
                       have H1 : (arraslaw3_PointBoth.j5 k5 l0 x3_1 t499 t500 t502 t503 x16_5 false x492000_3 x492001_3 x492002_3 x492003_3) = some r := by rw [if_neg (show ¬ (false = true) by decide)] at H; exact H
                       clear H; have H := H1; clear H1
                       have H' := Aside0.mk H
                       clear H
                       go_wp2_with (first | (go_at_call 17; (with_reducible refine (arraslaw3_num.calls t508 t515 _ A50.out).mono ?_); rintro e w' ⟨rfl, ⟨nd, rfl⟩⟩; (try first | exact ⟨rfl, _, World.drewN_drewN _ _ _⟩ | exact ⟨rfl, _, Eq.trans (World.drewN_drewN _ _ _) (congrArg (World.drewN _) (Nat.add_assoc _ _ _))⟩)) | (go_at_call 17; (with_reducible refine (arraslaw3_num.calls t510 t516 _ A52.out).mono ?_); rintro e w' ⟨rfl, ⟨nd, rfl⟩⟩; (try first | exact ⟨rfl, _, World.drewN_drewN _ _ _⟩ | exact ⟨rfl, _, Eq.trans (World.drewN_drewN _ _ _) (congrArg (World.drewN _) (Nat.add_assoc _ _ _))⟩)) | (go_at_call 17; (with_reducible refine (arraslaw3_num.calls t512 t517 _ A54.out).mono ?_); rintro e w' ⟨rfl, ⟨nd, rfl⟩⟩; (try first | exact ⟨rfl, _, World.drewN_drewN _ _ _⟩ | exact ⟨rfl, _, Eq.trans (World.drewN_drewN _ _ _) (congrArg (World.drewN _) (Nat.add_assoc _ _ _))⟩)) | (go_at_call 17; (with_reducible refine (arraslaw3_num.calls t514 t518 _ A56.out).mono ?_); rintro e w' ⟨rfl, ⟨nd, rfl⟩⟩; (try first | exact ⟨rfl, _, World.drewN_drewN _ _ _⟩ | exact ⟨rfl, _, Eq.trans (World.drewN_drewN _ _ _) (congrArg (World.drewN _) (Nat.add_assoc _ _ _))⟩)))
                       repeat (go_quiet (first | (go_at_call 17; (with_reducible refine (arraslaw3_num.calls t508 t515 _ A50.out).mono ?_); rintro e w' ⟨rfl, ⟨nd, rfl⟩⟩; (try first | exact ⟨rfl, _, World.drewN_drewN _ _ _⟩ | exact ⟨rfl, _, Eq.trans (World.drewN_drewN _ _ _) (congrArg (World.drewN _) (Nat.add_assoc _ _ _))⟩)) | (go_at_call 17; (with_reducible refine (arraslaw3_num.calls t510 t516 _ A52.out).mono ?_); rintro e w' ⟨rfl, ⟨nd, rfl⟩⟩; (try first | exact ⟨rfl, _, World.drewN_drewN _ _ _⟩ | exact ⟨rfl, _, Eq.trans (World.drewN_drewN _ _ _) (congrArg (World.drewN _) (Nat.add_assoc _ _ _))⟩)) | (go_at_call 17; (with_reducible refine (arraslaw3_num.calls t512 t517 _ A54.out).mono ?_); rintro e w' ⟨rfl, ⟨nd, rfl⟩⟩; (try first | exact ⟨rfl, _, World.drewN_drewN _ _ _⟩ | exact ⟨rfl, _, Eq.trans (World.drewN_drewN _ _ _) (congrArg (World.drewN _) (Nat.add_assoc _ _ _))⟩)) | (go_at_call 17; (with_reducible refine (arraslaw3_num.calls t514 t518 _ A56.out).mono ?_); rintro e w' ⟨rfl, ⟨nd, rfl⟩⟩; (try first | exact ⟨rfl, _, World.drewN_drewN _ _ _⟩ | exact ⟨rfl, _, Eq.trans (World.drewN_drewN _ _ _) (congrArg (World.drewN _) (Nat.add_assoc _ _ _))⟩))); try go_wp2_with (first | (go_at_call 17; (with_reducible refine (arraslaw3_num.calls t508 t515 _ A50.out).mono ?_); rintro e w' ⟨rfl, ⟨nd, rfl⟩⟩; (try first | exact ⟨rfl, _, World.drewN_drewN _ _ _⟩ | exact ⟨rfl, _, Eq.trans (World.drewN_drewN _ _ _) (congrArg (World.drewN _) (Nat.add_assoc _ _ _))⟩)) | (go_at_call 17; (with_reducible refine (arraslaw3_num.calls t510 t516 _ A52.out).mono ?_); rintro e w' ⟨rfl, ⟨nd, rfl⟩⟩; (try first | exact ⟨rfl, _, World.drewN_drewN _ _ _⟩ | exact ⟨rfl, _, Eq.trans (World.drewN_drewN _ _ _) (congrArg (World.drewN _) (Nat.add_assoc _ _ _))⟩)) | (go_at_call 17; (with_reducible refine (arraslaw3_num.calls t512 t517 _ A54.out).mono ?_); rintro e w' ⟨rfl, ⟨nd, rfl⟩⟩; (try first | exact ⟨rfl, _, World.drewN_drewN _ _ _⟩ | exact ⟨rfl, _, Eq.trans (World.drewN_drewN _ _ _) (congrArg (World.drewN _) (Nat.add_assoc _ _ _))⟩)) | (go_at_call 17; (with_reducible refine (arraslaw3_num.calls t514 t518 _ A56.out).mono ?_); rintro e w' ⟨rfl, ⟨nd, rfl⟩⟩; (try first | exact ⟨rfl, _, World.drewN_drewN _ _ _⟩ | exact ⟨rfl, _, Eq.trans (World.drewN_drewN _ _ _) (congrArg (World.drewN _) (Nat.add_assoc _ _ _))⟩))))
                       go_meet
                       case rel => exact ⟨_, (false), (by first | rfl | (simp; done) | (simp [*]; done)), H', ⟨by have := HK1.out; have := HJ1.out; have := HK3.out; have := HJ28.out; have := HK5.out; first | omega | exact Nat.le_refl _⟩, ⟨by (with_reducible repeat (first | refine blk_drewN ?_ _ | refine blk_drew ?_ | refine blk_alloc ?_ _)); exact BK491.out⟩, ⟨by repeat (first | (with_reducible first | exact HB.out | apply below_alloc | apply pw_below_drewN | apply below_drew1 | refine below_set ?_ GE491.out) | exact HB.out)⟩⟩
                   ·rw [if_neg c57] at H
                    have c57b0 : (t518 == 0) = false := beq_eq_false_iff_ne.mpr c57
                    have c57b1 : (t518 != 0) = true := bne_iff_ne.mpr c57
                    have H' := Aside0.mk H
                    clear H
                    go_wp2_with (first | (go_at_call 17; (with_reducible refine (arraslaw3_num.calls t508 t515 _ A50.out).mono ?_); rintro e w' ⟨rfl, ⟨nd, rfl⟩⟩; (try first | exact ⟨rfl, _, World.drewN_drewN _ _ _⟩ | exact ⟨rfl, _, Eq.trans (World.drewN_drewN _ _ _) (congrArg (World.drewN _) (Nat.add_assoc _ _ _))⟩)) | (go_at_call 17; (with_reducible refine (arraslaw3_num.calls t510 t516 _ A52.out).mono ?_); rintro e w' ⟨rfl, ⟨nd, rfl⟩⟩; (try first | exact ⟨rfl, _, World.drewN_drewN _ _ _⟩ | exact ⟨rfl, _, Eq.trans (World.drewN_drewN _ _ _) (congrArg (World.drewN _) (Nat.add_assoc _ _ _))⟩)) | (go_at_call 17; (with_reducible refine (arraslaw3_num.calls t512 t517 _ A54.out).mono ?_); rintro e w' ⟨rfl, ⟨nd, rfl⟩⟩; (try first | exact ⟨rfl, _, World.drewN_drewN _ _ _⟩ | exact ⟨rfl, _, Eq.trans (World.drewN_drewN _ _ _) (congrArg (World.drewN _) (Nat.add_assoc _ _ _))⟩)) | (go_at_call 17; (with_reducible refine (arraslaw3_num.calls t514 t518 _ A56.out).mono ?_); rintro e w' ⟨rfl, ⟨nd, rfl⟩⟩; (try first | exact ⟨rfl, _, World.drewN_drewN _ _ _⟩ | exact ⟨rfl, _, Eq.trans (World.drewN_drewN _ _ _) (congrArg (World.drewN _) (Nat.add_assoc _ _ _))⟩)))
                    repeat (go_quiet (first | (go_at_call 17; (with_reducible refine (arraslaw3_num.calls t508 t515 _ A50.out).mono ?_); rintro e w' ⟨rfl, ⟨nd, rfl⟩⟩; (try first | exact ⟨rfl, _, World.drewN_drewN _ _ _⟩ | exact ⟨rfl, _, Eq.trans (World.drewN_drewN _ _ _) (congrArg (World.drewN _) (Nat.add_assoc _ _ _))⟩)) | (go_at_call 17; (with_reducible refine (arraslaw3_num.calls t510 t516 _ A52.out).mono ?_); rintro e w' ⟨rfl, ⟨nd, rfl⟩⟩; (try first | exact ⟨rfl, _, World.drewN_drewN _ _ _⟩ | exact ⟨rfl, _, Eq.trans (World.drewN_drewN _ _ _) (congrArg (World.drewN _) (Nat.add_assoc _ _ _))⟩)) | (go_at_call 17; (with_reducible refine (arraslaw3_num.calls t512 t517 _ A54.out).mono ?_); rintro e w' ⟨rfl, ⟨nd, rfl⟩⟩; (try first | exact ⟨rfl, _, World.drewN_drewN _ _ _⟩ | exact ⟨rfl, _, Eq.trans (World.drewN_drewN _ _ _) (congrArg (World.drewN _) (Nat.add_assoc _ _ _))⟩)) | (go_at_call 17; (with_reducible refine (arraslaw3_num.calls t514 t518 _ A56.out).mono ?_); rintro e w' ⟨rfl, ⟨nd, rfl⟩⟩; (try first | exact ⟨rfl, _, World.drewN_drewN _ _ _⟩ | exact ⟨rfl, _, Eq.trans (World.drewN_drewN _ _ _) (congrArg (World.drewN _) (Nat.add_assoc _ _ _))⟩))); try go_wp2_with (first | (go_at_call 17; (with_reducible refine (arraslaw3_num.calls t508 t515 _ A50.out).mono ?_); rintro e w' ⟨rfl, ⟨nd, rfl⟩⟩; (try first | exact ⟨rfl, _, World.drewN_drewN _ _ _⟩ | exact ⟨rfl, _, Eq.trans (World.drewN_drewN _ _ _) (congrArg (World.drewN _) (Nat.add_assoc _ _ _))⟩)) | (go_at_call 17; (with_reducible refine (arraslaw3_num.calls t510 t516 _ A52.out).mono ?_); rintro e w' ⟨rfl, ⟨nd, rfl⟩⟩; (try first | exact ⟨rfl, _, World.drewN_drewN _ _ _⟩ | exact ⟨rfl, _, Eq.trans (World.drewN_drewN _ _ _) (congrArg (World.drewN _) (Nat.add_assoc _ _ _))⟩)) | (go_at_call 17; (with_reducible refine (arraslaw3_num.calls t512 t517 _ A54.out).mono ?_); rintro e w' ⟨rfl, ⟨nd, rfl⟩⟩; (try first | exact ⟨rfl, _, World.drewN_drewN _ _ _⟩ | exact ⟨rfl, _, Eq.trans (World.drewN_drewN _ _ _) (congrArg (World.drewN _) (Nat.add_assoc _ _ _))⟩)) | (go_at_call 17; (with_reducible refine (arraslaw3_num.calls t514 t518 _ A56.out).mono ?_); rintro e w' ⟨rfl, ⟨nd, rfl⟩⟩; (try first | exact ⟨rfl, _, World.drewN_drewN _ _ _⟩ | exact ⟨rfl, _, Eq.trans (World.drewN_drewN _ _ _) (congrArg (World.drewN _) (Nat.add_assoc _ _ _))⟩))))
                    go_meet
                    case rel => exact ⟨_, (true), (by first | rfl | (simp; done) | (simp [*]; done)), H', ⟨by have := HK1.out; have := HJ1.out; have := HK3.out; have := HJ28.out; have := HK5.out; first | omega | exact Nat.le_refl _⟩, ⟨by (with_reducible repeat (first | refine blk_drewN ?_ _ | refine blk_drew ?_ | refine blk_alloc ?_ _)); exact BK491.out⟩, ⟨by repeat (first | (with_reducible first | exact HB.out | apply below_alloc | apply pw_below_drewN | apply below_drew1 | refine below_set ?_ GE491.out) | exact HB.out)⟩⟩
                  ·rw [if_neg c55] at H
                   have c55b0 : (t517 == 0) = false := beq_eq_false_iff_ne.mpr c55
                   have c55b1 : (t517 != 0) = true := bne_iff_ne.mpr c55
                   have H' := Aside0.mk H
                   clear H
                   go_wp2_with (first | (go_at_call 17; (with_reducible refine (arraslaw3_num.calls t508 t515 _ A50.out).mono ?_); rintro e w' ⟨rfl, ⟨nd, rfl⟩⟩; (try first | exact ⟨rfl, _, World.drewN_drewN _ _ _⟩ | exact ⟨rfl, _, Eq.trans (World.drewN_drewN _ _ _) (congrArg (World.drewN _) (Nat.add_assoc _ _ _))⟩)) | (go_at_call 17; (with_reducible refine (arraslaw3_num.calls t510 t516 _ A52.out).mono ?_); rintro e w' ⟨rfl, ⟨nd, rfl⟩⟩; (try first | exact ⟨rfl, _, World.drewN_drewN _ _ _⟩ | exact ⟨rfl, _, Eq.trans (World.drewN_drewN _ _ _) (congrArg (World.drewN _) (Nat.add_assoc _ _ _))⟩)) | (go_at_call 17; (with_reducible refine (arraslaw3_num.calls t512 t517 _ A54.out).mono ?_); rintro e w' ⟨rfl, ⟨nd, rfl⟩⟩; (try first | exact ⟨rfl, _, World.drewN_drewN _ _ _⟩ | exact ⟨rfl, _, Eq.trans (World.drewN_drewN _ _ _) (congrArg (World.drewN _) (Nat.add_assoc _ _ _))⟩)))
                   repeat (go_quiet (first | (go_at_call 17; (with_reducible refine (arraslaw3_num.calls t508 t515 _ A50.out).mono ?_); rintro e w' ⟨rfl, ⟨nd, rfl⟩⟩; (try first | exact ⟨rfl, _, World.drewN_drewN _ _ _⟩ | exact ⟨rfl, _, Eq.trans (World.drewN_drewN _ _ _) (congrArg (World.drewN _) (Nat.add_assoc _ _ _))⟩)) | (go_at_call 17; (with_reducible refine (arraslaw3_num.calls t510 t516 _ A52.out).mono ?_); rintro e w' ⟨rfl, ⟨nd, rfl⟩⟩; (try first | exact ⟨rfl, _, World.drewN_drewN _ _ _⟩ | exact ⟨rfl, _, Eq.trans (World.drewN_drewN _ _ _) (congrArg (World.drewN _) (Nat.add_assoc _ _ _))⟩)) | (go_at_call 17; (with_reducible refine (arraslaw3_num.calls t512 t517 _ A54.out).mono ?_); rintro e w' ⟨rfl, ⟨nd, rfl⟩⟩; (try first | exact ⟨rfl, _, World.drewN_drewN _ _ _⟩ | exact ⟨rfl, _, Eq.trans (World.drewN_drewN _ _ _) (congrArg (World.drewN _) (Nat.add_assoc _ _ _))⟩))); try go_wp2_with (first | (go_at_call 17; (with_reducible refine (arraslaw3_num.calls t508 t515 _ A50.out).mono ?_); rintro e w' ⟨rfl, ⟨nd, rfl⟩⟩; (try first | exact ⟨rfl, _, World.drewN_drewN _ _ _⟩ | exact ⟨rfl, _, Eq.trans (World.drewN_drewN _ _ _) (congrArg (World.drewN _) (Nat.add_assoc _ _ _))⟩)) | (go_at_call 17; (with_reducible refine (arraslaw3_num.calls t510 t516 _ A52.out).mono ?_); rintro e w' ⟨rfl, ⟨nd, rfl⟩⟩; (try first | exact ⟨rfl, _, World.drewN_drewN _ _ _⟩ | exact ⟨rfl, _, Eq.trans (World.drewN_drewN _ _ _) (congrArg (World.drewN _) (Nat.add_assoc _ _ _))⟩)) | (go_at_call 17; (with_reducible refine (arraslaw3_num.calls t512 t517 _ A54.out).mono ?_); rintro e w' ⟨rfl, ⟨nd, rfl⟩⟩; (try first | exact ⟨rfl, _, World.drewN_drewN _ _ _⟩ | exact ⟨rfl, _, Eq.trans (World.drewN_drewN _ _ _) (congrArg (World.drewN _) (Nat.add_assoc _ _ _))⟩))))
                   go_meet
                   case rel => exact ⟨_, (true), (by first | rfl | (simp; done) | (simp [*]; done)), H', ⟨by have := HK1.out; have := HJ1.out; have := HK3.out; have := HJ28.out; have := HK5.out; first | omega | exact Nat.le_refl _⟩, ⟨by (with_reducible repeat (first | refine blk_drewN ?_ _ | refine blk_drew ?_ | refine blk_alloc ?_ _)); exact BK491.out⟩, ⟨by repeat (first | (with_reducible first | exact HB.out | apply below_alloc | apply pw_below_drewN | apply below_drew1 | refine below_set ?_ GE491.out) | exact HB.out)⟩⟩
                 ·rw [if_neg c53] at H
                  have c53b0 : (t516 == 0) = false := beq_eq_false_iff_ne.mpr c53
                  have c53b1 : (t516 != 0) = true := bne_iff_ne.mpr c53
                  have H' := Aside0.mk H
                  clear H
                  go_wp2_with (first | (go_at_call 17; (with_reducible refine (arraslaw3_num.calls t508 t515 _ A50.out).mono ?_); rintro e w' ⟨rfl, ⟨nd, rfl⟩⟩; (try first | exact ⟨rfl, _, World.drewN_drewN _ _ _⟩ | exact ⟨rfl, _, Eq.trans (World.drewN_drewN _ _ _) (congrArg (World.drewN _) (Nat.add_assoc _ _ _))⟩)) | (go_at_call 17; (with_reducible refine (arraslaw3_num.calls t510 t516 _ A52.out).mono ?_); rintro e w' ⟨rfl, ⟨nd, rfl⟩⟩; (try first | exact ⟨rfl, _, World.drewN_drewN _ _ _⟩ | exact ⟨rfl, _, Eq.trans (World.drewN_drewN _ _ _) (congrArg (World.drewN _) (Nat.add_assoc _ _ _))⟩)))
                  repeat (go_quiet (first | (go_at_call 17; (with_reducible refine (arraslaw3_num.calls t508 t515 _ A50.out).mono ?_); rintro e w' ⟨rfl, ⟨nd, rfl⟩⟩; (try first | exact ⟨rfl, _, World.drewN_drewN _ _ _⟩ | exact ⟨rfl, _, Eq.trans (World.drewN_drewN _ _ _) (congrArg (World.drewN _) (Nat.add_assoc _ _ _))⟩)) | (go_at_call 17; (with_reducible refine (arraslaw3_num.calls t510 t516 _ A52.out).mono ?_); rintro e w' ⟨rfl, ⟨nd, rfl⟩⟩; (try first | exact ⟨rfl, _, World.drewN_drewN _ _ _⟩ | exact ⟨rfl, _, Eq.trans (World.drewN_drewN _ _ _) (congrArg (World.drewN _) (Nat.add_assoc _ _ _))⟩))); try go_wp2_with (first | (go_at_call 17; (with_reducible refine (arraslaw3_num.calls t508 t515 _ A50.out).mono ?_); rintro e w' ⟨rfl, ⟨nd, rfl⟩⟩; (try first | exact ⟨rfl, _, World.drewN_drewN _ _ _⟩ | exact ⟨rfl, _, Eq.trans (World.drewN_drewN _ _ _) (congrArg (World.drewN _) (Nat.add_assoc _ _ _))⟩)) | (go_at_call 17; (with_reducible refine (arraslaw3_num.calls t510 t516 _ A52.out).mono ?_); rintro e w' ⟨rfl, ⟨nd, rfl⟩⟩; (try first | exact ⟨rfl, _, World.drewN_drewN _ _ _⟩ | exact ⟨rfl, _, Eq.trans (World.drewN_drewN _ _ _) (congrArg (World.drewN _) (Nat.add_assoc _ _ _))⟩))))
                  go_meet
                  case rel => exact ⟨_, (true), (by first | rfl | (simp; done) | (simp [*]; done)), H', ⟨by have := HK1.out; have := HJ1.out; have := HK3.out; have := HJ28.out; have := HK5.out; first | omega | exact Nat.le_refl _⟩, ⟨by (with_reducible repeat (first | refine blk_drewN ?_ _ | refine blk_drew ?_ | refine blk_alloc ?_ _)); exact BK491.out⟩, ⟨by repeat (first | (with_reducible first | exact HB.out | apply below_alloc | apply pw_below_drewN | apply below_drew1 | refine below_set ?_ GE491.out) | exact HB.out)⟩⟩
                ·rw [if_neg c51] at H
                 have c51b0 : (t515 == 0) = false := beq_eq_false_iff_ne.mpr c51
                 have c51b1 : (t515 != 0) = true := bne_iff_ne.mpr c51
                 (first | rw [c51b0] | (simp only [i64_w, i32_w]; rw [c51b0]) | skip)
                 have H' := Aside0.mk H
                 clear H
                 go_wp2_with (first | (go_at_call 17; (with_reducible refine (arraslaw3_num.calls t508 t515 _ A50.out).mono ?_); rintro e w' ⟨rfl, ⟨nd, rfl⟩⟩; (try first | exact ⟨rfl, _, World.drewN_drewN _ _ _⟩ | exact ⟨rfl, _, Eq.trans (World.drewN_drewN _ _ _) (congrArg (World.drewN _) (Nat.add_assoc _ _ _))⟩)))
                 repeat (go_quiet (first | (go_at_call 17; (with_reducible refine (arraslaw3_num.calls t508 t515 _ A50.out).mono ?_); rintro e w' ⟨rfl, ⟨nd, rfl⟩⟩; (try first | exact ⟨rfl, _, World.drewN_drewN _ _ _⟩ | exact ⟨rfl, _, Eq.trans (World.drewN_drewN _ _ _) (congrArg (World.drewN _) (Nat.add_assoc _ _ _))⟩))); try go_wp2_with (first | (go_at_call 17; (with_reducible refine (arraslaw3_num.calls t508 t515 _ A50.out).mono ?_); rintro e w' ⟨rfl, ⟨nd, rfl⟩⟩; (try first | exact ⟨rfl, _, World.drewN_drewN _ _ _⟩ | exact ⟨rfl, _, Eq.trans (World.drewN_drewN _ _ _) (congrArg (World.drewN _) (Nat.add_assoc _ _ _))⟩))))
                 go_meet
                 case rel => exact ⟨_, (true), (by first | rfl | (simp; done) | (simp [*]; done)), H', ⟨by have := HK1.out; have := HJ1.out; have := HK3.out; have := HJ28.out; have := HK5.out; first | omega | exact Nat.le_refl _⟩, ⟨by (with_reducible repeat (first | refine blk_drewN ?_ _ | refine blk_drew ?_ | refine blk_alloc ?_ _)); exact BK491.out⟩, ⟨by repeat (first | (with_reducible first | exact HB.out | apply below_alloc | apply pw_below_drewN | apply below_drew1 | refine below_set ?_ GE491.out) | exact HB.out)⟩⟩
               case rest => as_aux_lemma =>
                clear HC43
                try clear c1
                try clear c2
                try clear p2
                try clear c3
                try clear c3b0
                try clear c4
                try clear p4
                try clear q4
                try clear hx4
                try clear c5
                try clear c6
                try clear c6b0
                try clear p6
                try clear c7
                try clear c7b0
                try clear c8
                try clear c8b0
                try clear c10
                try clear c10b0
                try clear c10b1
                try clear c13
                try clear c13b0
                try clear c18
                try clear c18b0
                try clear c18b1
                try clear c19
                try clear c19b0
                try clear c19b1
                try clear c19b2
                try clear c21
                try clear c21b0
                try clear c21b1
                try clear c21b2
                try clear c23
                try clear c23b0
                try clear c23b1
                try clear c23b2
                try clear c25
                try clear c25b0
                try clear c25b1
                try clear c25b2
                try clear c35
                try clear c35b0
                try clear c35b1
                try clear c37
                try clear c38
                try clear c38b0
                try clear p49
                try clear q49
                try clear hx49
                try clear c51
                try clear c51b0
                try clear c51b1
                try clear c53
                try clear c53b0
                try clear c53b1
                try clear c55
                try clear c55b0
                try clear c55b1
                try clear c57
                try clear c57b0
                try clear c57b1
                try clear c58
                try clear c59
                try clear c59b0
                try clear c59b1
                try clear c59b2
                try clear c60
                try clear c60b0
                try clear c60b1
                try clear c60b2
                try clear c61
                try clear hcz20_0
                try clear hcz20_1
                try clear hcz20_2
                try clear hcz20_3
                try clear hcz22_0
                try clear hcz22_1
                try clear hcz22_2
                try clear hcz22_3
                try clear hcz24_0
                try clear hcz24_1
                try clear hcz24_2
                try clear hcz24_3
                try clear hcz26_0
                try clear hcz26_1
                try clear hcz26_2
                try clear hcz26_3
                try clear hcz30_0
                try clear hcz30_1
                try clear hcz30_2
                try clear hcz30_3
                try clear hcz32_0
                try clear hcz32_1
                try clear hcz32_2
                try clear hcz32_3
                try clear hcz44_0
                try clear hcz44_1
                try clear hcz44_2
                try clear hcz44_3
                try clear hcz46_0
                try clear hcz46_1
                try clear hcz46_2
                try clear hcz46_3
                try clear hfz20_0
                try clear hfz20_1
                try clear hfz20_2
                try clear hfz20_3
                try clear hfz22_0
                try clear hfz22_1
                try clear hfz22_2
                try clear hfz22_3
                try clear hfz24_0
                try clear hfz24_1
                try clear hfz24_2
                try clear hfz24_3
                try clear hfz26_0
                try clear hfz26_1
                try clear hfz26_2
                try clear hfz26_3
                try clear hfz30_0
                try clear hfz30_1
                try clear hfz30_2
                try clear hfz30_3
                try clear hfz32_0
                try clear hfz32_1
                try clear hfz32_2
                try clear hfz32_3
                try clear hfz44_0
                try clear hfz44_1
                try clear hfz44_2
                try clear hfz44_3
                try clear hfz46_0
                try clear hfz46_1
                try clear hfz46_2
                try clear hfz46_3
                try clear hx492_0
                try clear hx492_1
                try clear hx492_2
                try clear hx492_3
                try clear hx492_4
                try clear hx492_5
                try clear hx492_6
                try clear hx492_7
                try clear hx492_8
                try clear hx492_9
                try clear hx494_0
                try clear hx494_1
                try clear hx494_2
                try clear hx494_3
                try clear hx494_4
                try clear hx494_5
                try clear hx494_6
                try clear hx494_7
                try clear hx494_8
                try clear hx494_9
                try clear p2
                try clear p4
                try clear p492
                try clear p494
                try clear p6
                try clear q4
                try clear q492
                try clear q494
                obtain ⟨kq, x184_42, rfl, HA, HJ42, BK491, HB⟩ := hcut
                cases kq with
                | zero => exact absurd HA.out (by simp [arraslaw3_PointBoth.j5])
                | succ kj42 =>
                 have H := HA.out
                 clear HA
                 simp only [arraslaw3_PointBoth.j5] at H
                 by_cases c62 : x184_42 = true
                 ·subst c62
                  have H1 : (some false) = some r := by rw [if_pos rfl] at H; exact H
                  clear H; have H := H1; clear H1
                  obtain rfl := Option.some.inj H
                  go_wp2
                  repeat (go_quiet (fail); try go_wp2)
                  go_ret
                  exact ⟨by first | rfl | (simp [errW_none, errW_some] <;> rfl) | (simp [*, errW_none, errW_some] <;> rfl), by repeat (first | (with_reducible first | exact HB.out | apply below_alloc | apply pw_below_drewN | apply below_drew1 | refine below_set ?_ GE491.out) | exact HB.out)⟩
                 ·replace c62 := Bool.eq_false_iff.mpr c62
                  subst c62
                  have H1 : (arraslaw3_PointBoth.l2 kj42 l0 x3_1 t499 t500 t502 t503 (wrap64 (x16_5 + 1)) x492000_3 x492001_3 x492002_3 x492003_3) = some r := by rw [if_neg (show ¬ (false = true) by decide)] at H; exact H
                  clear H; have H := H1; clear H1
                  have H' := Aside0.mk H
                  clear H
                  go_wp2
                  repeat (go_quiet (fail); try go_wp2)
                  go_roundg kj42
                  case measure => have := HK1.out; have := HJ1.out; have := HK3.out; have := HJ28.out; have := HK5.out; have := HJ42.out; omega
                  case rel => exact ⟨(wrap64 (x16_5 + 1)), (by first | rfl | (simp; done) | (simp [*]; done)), H', ⟨by have := HK1.out; have := HJ1.out; have := HK3.out; have := HJ28.out; have := HK5.out; have := HJ42.out; omega⟩, ⟨by (with_reducible repeat (first | refine blk_drewN ?_ _ | refine blk_drew ?_ | refine blk_alloc ?_ _)); exact BK491.out⟩, ⟨by repeat (first | (with_reducible first | exact HB.out | apply below_alloc | apply pw_below_drewN | apply below_drew1 | refine below_set ?_ GE491.out) | exact HB.out)⟩⟩
              ·rw [if_neg c38] at H
               have c38b0 : decide (x16_5 < 100) = false := decide_eq_false c38
               clear c38
               have H' := Aside0.mk H
               clear H
               go_wp2
               repeat (go_quiet (fail); try go_wp2)
               go_roundg k5
               case measure => have := HK1.out; have := HJ1.out; have := HK3.out; have := HJ28.out; have := HK5.out; omega
               case rel => exact ⟨(wrap64 (x3_1 + 1)), (by first | rfl | (simp; done) | (simp [*]; done)), H', ⟨by have := HK1.out; have := HJ1.out; have := HK3.out; have := HJ28.out; have := HK5.out; omega⟩, ⟨by repeat (first | (with_reducible first | exact HB.out | apply below_alloc | apply pw_below_drewN | apply below_drew1 | refine below_set ?_ GE491.out) | exact HB.out)⟩⟩
     ·replace c4 := Bool.eq_false_iff.mpr c4
      subst c4
      have H1 : ((arraslaw3_wakes.f kj1).bind fun t490 => (some t490)) = some r := by rw [if_neg (show ¬ (false = true) by decide)] at H; exact H
      clear H; have H := H1; clear H1
      replace H := Option.bind_eq_some_iff.mp H
      obtain ⟨t490, A630, H⟩ := H
      replace H : (some t490) = some r := H
      have A63 := Aside0.mk A630; clear A630
      obtain rfl := Option.some.inj H
      go_wp2_with (first | (go_at_call 20; (with_reducible refine (arraslaw3_wakes.calls kj1  t490 _ A63.out).mono ?_); rintro e w64 ⟨rfl, hb⟩; have n0_ := Aside0.mk (below_step (by repeat (first | (with_reducible first | exact HB.out | apply below_alloc | apply pw_below_drewN | apply below_drew1) | exact HB.out)) hb); clear HB; have HB := n0_; clear n0_; (try clear hb); (try clear hb2); (try clear hk); (try clear hi)))
      repeat (go_quiet (first | (go_at_call 20; (with_reducible refine (arraslaw3_wakes.calls kj1  t490 _ A63.out).mono ?_); rintro e w64 ⟨rfl, hb⟩; have n0_ := Aside0.mk (below_step (by repeat (first | (with_reducible first | exact HB.out | apply below_alloc | apply pw_below_drewN | apply below_drew1) | exact HB.out)) hb); clear HB; have HB := n0_; clear n0_; (try clear hb); (try clear hb2); (try clear hk); (try clear hi))); try go_wp2_with (first | (go_at_call 20; (with_reducible refine (arraslaw3_wakes.calls kj1  t490 _ A63.out).mono ?_); rintro e w64 ⟨rfl, hb⟩; have n0_ := Aside0.mk (below_step (by repeat (first | (with_reducible first | exact HB.out | apply below_alloc | apply pw_below_drewN | apply below_drew1) | exact HB.out)) hb); clear HB; have HB := n0_; clear n0_; (try clear hb); (try clear hb2); (try clear hk); (try clear hi))))
      go_ret
      exact ⟨by first | rfl | (simp [errW_none, errW_some] <;> rfl) | (simp [*, errW_none, errW_some] <;> rfl), by repeat (first | (with_reducible first | exact HB.out | apply below_alloc | apply pw_below_drewN | apply below_drew1) | exact HB.out)⟩

end Go.Proofs.Ytdpeeinmckohgaa.PC
