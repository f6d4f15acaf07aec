-- Written by wprint.py, a program of this session's, over the kit's print.
import Derived.Test.YtdpeeinmckohgaaPCx0
import Derived.Test.YtdpeeinmckohgaaPCx1
import Derived.Test.YtdpeeinmckohgaaPCx4
import Derived.Test.YtdpeeinmckohgaaPCx5
import Derived.Test.YtdpeeinmckohgaaPCx12
import Derived.Test.YtdpeeinmckohgaaPCx18
import Derived.Test.YtdpeeinmckohgaaPCx19
import Derived.Test.YtdpeeinmckohgaaPCx20
namespace Go.Proofs.Ytdpeeinmckohgaa.PC
open Go.RowKit Go.Proofs.YtdpeeinmckohgaaW.PrintWords Go.Proofs.YtdpeeinmckohgaaW.PrintLast Go.Proofs.YtdpeeinmckohgaaW.PrintMore
attribute [local go_sem] max2_int min2_int max_two min_two max_three min_three max_four min_four fl_eql fl_neq fl_lss fl_leq fl_gtr fl_geq fl_add fl_of fl_int cx_mk cx_real cx_imag cx_eql cx_neq cx_add st_f64 st_c128   -- for this text's walks alone
set_option linter.unusedVariables false
set_option linter.unusedSimpArgs false

/-! ### arraslaw3_PointBoxes: function 7 -/
mutual
def arraslaw3_PointBoxes.l0 : Nat → List (S26) → Int → Option (Bool)
  | 0, _, _ => none
  | k + 1, x0, x3 => if x3 < (x0.length : Int) then (arraslaw3_PointBoxes.j1 k x0 x3 (decide (x3 < 12))) else (arraslaw3_PointBoxes.j1 k x0 x3 false)
def arraslaw3_PointBoxes.j1 : Nat → List (S26) → Int → Bool → Option (Bool)
  | 0, _, _, _ => none
  | k + 1, x0, x3, x25 => if x25 = true then (if 0 ≤ x3 then (if x3 < (x0.length : Int) then ((arraslaw3_Ask_c.f ((rd_T26 x0 x3).f0) ((rd_T26 x0 x3).f1) ((rd_T26 x0 x3).f2.f0) ((rd_T26 x0 x3).f2.f1) ((rd_T26 x0 x3).f2.f2) ((rd_T26 x0 x3).f2.f3) ((rd_T26 x0 x3).f2.f4) ((rd_T26 x0 x3).f2.f5) ((rd_T26 x0 x3).f2.f6) ((rd_T26 x0 x3).f2.f7) 0).bind fun t463 => ((arraslaw3_Ask_c.f ((rd_T26 x0 x3).f0) ((rd_T26 x0 x3).f1) ((rd_T26 x0 x3).f2.f0) ((rd_T26 x0 x3).f2.f1) ((rd_T26 x0 x3).f2.f2) ((rd_T26 x0 x3).f2.f3) ((rd_T26 x0 x3).f2.f4) ((rd_T26 x0 x3).f2.f5) ((rd_T26 x0 x3).f2.f6) ((rd_T26 x0 x3).f2.f7) 1).bind fun t465 => ((arraslaw3_Ask_c.f ((rd_T26 x0 x3).f0) ((rd_T26 x0 x3).f1) ((rd_T26 x0 x3).f2.f0) ((rd_T26 x0 x3).f2.f1) ((rd_T26 x0 x3).f2.f2) ((rd_T26 x0 x3).f2.f3) ((rd_T26 x0 x3).f2.f4) ((rd_T26 x0 x3).f2.f5) ((rd_T26 x0 x3).f2.f6) ((rd_T26 x0 x3).f2.f7) 2).bind fun t467 => ((arraslaw3_Ask_c.f ((rd_T26 x0 x3).f0) ((rd_T26 x0 x3).f1) ((rd_T26 x0 x3).f2.f0) ((rd_T26 x0 x3).f2.f1) ((rd_T26 x0 x3).f2.f2) ((rd_T26 x0 x3).f2.f3) ((rd_T26 x0 x3).f2.f4) ((rd_T26 x0 x3).f2.f5) ((rd_T26 x0 x3).f2.f6) ((rd_T26 x0 x3).f2.f7) 3).bind fun t469 => ((point_Join.f k t463 t465 t467 t469).bind fun bt470 => ((point_Meet.f k t463 t465 t467 t469).bind fun bt473 => ((arrasref3_Box.f t463 t465).bind fun t476 => (if t476 = true then ((arrasref3_Box.f t467 t469).bind fun t477 => (arraslaw3_PointBoxes.j2 k x0 x3 t463 t465 t467 t469 bt470.1 bt470.2.1 bt470.2.2 bt473.1 bt473.2.1 bt473.2.2 (!t477))) else (arraslaw3_PointBoxes.j2 k x0 x3 t463 t465 t467 t469 bt470.1 bt470.2.1 bt470.2.2 bt473.1 bt473.2.1 bt473.2.2 true))))))))) else (none)) else (none)) else ((arraslaw3_wakes.f k).bind fun t461 => (some t461))
def arraslaw3_PointBoxes.j2 : Nat → List (S26) → Int → C128 → C128 → C128 → C128 → C128 → C128 → Int → C128 → C128 → Int → Bool → Option (Bool)
  | 0, _, _, _, _, _, _, _, _, _, _, _, _, _ => none
  | k + 1, x0, x3, x4, x5, x6, x7, x8, x9, x10, x11, x12, x13, x75 => if x75 = true then ((arraslaw3_num.f x10).bind fun t478 => (if t478 = 1 then ((arraslaw3_num.f x13).bind fun t479 => (if t479 = 1 then (arraslaw3_PointBoxes.l0 k x0 (wrap64 (x3 + 1))) else (some false))) else (some false))) else ((arrasref3_Join.f x4 x5 x6 x7).bind fun bt480 => ((arrasref3_Meet.f x4 x5 x6 x7).bind fun bt482 => ((arraslaw3_num.f x10).bind fun t484 => (if t484 = 0 then ((arraslaw3_num.f x13).bind fun t485 => (if t485 = 0 then (if ((feq x8.1 bt480.1.1 && feq x8.2 bt480.1.2) = true) then (if ((feq x9.1 bt480.2.1 && feq x9.2 bt480.2.2) = true) then (if ((feq x11.1 bt482.1.1 && feq x11.2 bt482.1.2) = true) then (if ((feq x12.1 bt482.2.1 && feq x12.2 bt482.2.2) = true) then ((arraslaw3_clean.f x8).bind fun t486 => (if t486 = true then ((arraslaw3_clean.f x9).bind fun t487 => (if t487 = true then ((arraslaw3_clean.f x11).bind fun t488 => (if t488 = true then ((arraslaw3_clean.f x12).bind fun t489 => (if t489 = true then (arraslaw3_PointBoxes.l0 k x0 (wrap64 (x3 + 1))) else (some false))) else (some false))) else (some false))) else (some false))) else (some false)) else (some false)) else (some false)) else (some false)) else (some false))) else (some false)))))
end
def arraslaw3_PointBoxes.f (k : Nat) (l0 : List (S26)) : Option (Bool) := arraslaw3_PointBoxes.l0 k l0 0
theorem arraslaw3_PointBoxes.mono_l : ∀ k, (∀ y0 y1, LeO (arraslaw3_PointBoxes.l0 k y0 y1) (arraslaw3_PointBoxes.l0 (k + 1) y0 y1)) ∧ (∀ y0 y1 y2, LeO (arraslaw3_PointBoxes.j1 k y0 y1 y2) (arraslaw3_PointBoxes.j1 (k + 1) y0 y1 y2)) ∧ (∀ y0 y1 y2 y3 y4 y5 y6 y7 y8 y9 y10 y11 y12, LeO (arraslaw3_PointBoxes.j2 k y0 y1 y2 y3 y4 y5 y6 y7 y8 y9 y10 y11 y12) (arraslaw3_PointBoxes.j2 (k + 1) y0 y1 y2 y3 y4 y5 y6 y7 y8 y9 y10 y11 y12))
  | 0 => ⟨fun _ _ r h => by simp [arraslaw3_PointBoxes.l0] at h, fun _ _ _ r h => by simp [arraslaw3_PointBoxes.j1] at h, fun _ _ _ _ _ _ _ _ _ _ _ _ _ r h => by simp [arraslaw3_PointBoxes.j2] at h⟩
  | k + 1 => by
    obtain ⟨ih0, ih1, ih2⟩ := arraslaw3_PointBoxes.mono_l k
    refine ⟨?_, ?_, ?_⟩
    · intro y0 y1
      unfold arraslaw3_PointBoxes.l0
      repeat' first
      | (with_reducible exact ih0 _ _)
      | (with_reducible exact ih1 _ _ _)
      | (with_reducible exact ih2 _ _ _ _ _ _ _ _ _ _ _ _ _)
      | (with_reducible exact arraslaw3_wakes.mono _)
      | (with_reducible exact point_Join.mono _ _ _ _ _)
      | (with_reducible exact point_Meet.mono _ _ _ _ _)
      | (with_reducible exact LeO.refl _)
      | (with_reducible exact LeO.none _)
      | (with_reducible refine LeO.ite ?_ ?_)
      | (with_reducible refine LeO.bind ?_ (fun _ => ?_))
      | exact ih0 _ _
      | exact ih1 _ _ _
      | exact ih2 _ _ _ _ _ _ _ _ _ _ _ _ _
      | exact arraslaw3_wakes.mono _
      | exact point_Join.mono _ _ _ _ _
      | exact point_Meet.mono _ _ _ _ _
      | exact LeO.none _
      | refine LeO.ite ?_ ?_
      | refine LeO.bind ?_ (fun _ => ?_)
    · intro y0 y1 y2
      unfold arraslaw3_PointBoxes.j1
      repeat' first
      | (with_reducible exact ih0 _ _)
      | (with_reducible exact ih1 _ _ _)
      | (with_reducible exact ih2 _ _ _ _ _ _ _ _ _ _ _ _ _)
      | (with_reducible exact arraslaw3_wakes.mono _)
      | (with_reducible exact point_Join.mono _ _ _ _ _)
      | (with_reducible exact point_Meet.mono _ _ _ _ _)
      | (with_reducible exact LeO.refl _)
      | (with_reducible exact LeO.none _)
      | (with_reducible refine LeO.ite ?_ ?_)
      | (with_reducible refine LeO.bind ?_ (fun _ => ?_))
      | exact ih0 _ _
      | exact ih1 _ _ _
      | exact ih2 _ _ _ _ _ _ _ _ _ _ _ _ _
      | exact arraslaw3_wakes.mono _
      | exact point_Join.mono _ _ _ _ _
      | exact point_Meet.mono _ _ _ _ _
      | exact LeO.none _
      | refine LeO.ite ?_ ?_
      | refine LeO.bind ?_ (fun _ => ?_)
    · intro y0 y1 y2 y3 y4 y5 y6 y7 y8 y9 y10 y11 y12
      unfold arraslaw3_PointBoxes.j2
      repeat' first
      | (with_reducible exact ih0 _ _)
      | (with_reducible exact ih1 _ _ _)
      | (with_reducible exact ih2 _ _ _ _ _ _ _ _ _ _ _ _ _)
      | (with_reducible exact arraslaw3_wakes.mono _)
      | (with_reducible exact point_Join.mono _ _ _ _ _)
      | (with_reducible exact point_Meet.mono _ _ _ _ _)
      | (with_reducible exact LeO.refl _)
      | (with_reducible exact LeO.none _)
      | (with_reducible refine LeO.ite ?_ ?_)
      | (with_reducible refine LeO.bind ?_ (fun _ => ?_))
      | exact ih0 _ _
      | exact ih1 _ _ _
      | exact ih2 _ _ _ _ _ _ _ _ _ _ _ _ _
      | exact arraslaw3_wakes.mono _
      | exact point_Join.mono _ _ _ _ _
      | exact point_Meet.mono _ _ _ _ _
      | exact LeO.none _
      | refine LeO.ite ?_ ?_
      | refine LeO.bind ?_ (fun _ => ?_)
theorem arraslaw3_PointBoxes.mono : ∀ a0 k, LeO (arraslaw3_PointBoxes.f k a0) (arraslaw3_PointBoxes.f (k + 1) a0) := by
  intro a0 k
  obtain ⟨ih0, ih1, ih2⟩ := arraslaw3_PointBoxes.mono_l k
  unfold arraslaw3_PointBoxes.f
  repeat' first
      | (with_reducible exact ih0 _ _)
      | (with_reducible exact ih1 _ _ _)
      | (with_reducible exact ih2 _ _ _ _ _ _ _ _ _ _ _ _ _)
      | (with_reducible exact arraslaw3_wakes.mono _)
      | (with_reducible exact point_Join.mono _ _ _ _ _)
      | (with_reducible exact point_Meet.mono _ _ _ _ _)
      | (with_reducible exact LeO.refl _)
      | (with_reducible exact LeO.none _)
      | (with_reducible refine LeO.ite ?_ ?_)
      | (with_reducible refine LeO.bind ?_ (fun _ => ?_))
      | exact ih0 _ _
      | exact ih1 _ _ _
      | exact ih2 _ _ _ _ _ _ _ _ _ _ _ _ _
      | exact arraslaw3_wakes.mono _
      | exact point_Join.mono _ _ _ _ _
      | exact point_Meet.mono _ _ _ _ _
      | exact LeO.none _
      | refine LeO.ite ?_ ?_
      | refine LeO.bind ?_ (fun _ => ?_)
def arraslaw3_PointBoxes.T4 : Bool × List (List Nat × List Nat) := (true, [([], []), ([], []), ([0, 1], [0, 1]), ([2], [2]), ([3], [3]), ([], []), ([], []), ([5, 6], [5, 6]), ([7], [7]), ([8, 4], [8]), ([], []), ([], []), ([10, 11], [10, 11]), ([12], [12]), ([13, 9], [13]), ([], []), ([], []), ([15, 16], [15, 16]), ([17], [17]), ([18, 14], [18]), ([4, 19, 0, 1, 2, 3, 4], [4]), ([9, 20, 0, 1, 2, 3, 4, 5, 6, 7, 8, 9, 20], [9]), ([14, 21, 0, 1, 2, 3, 4, 5, 6, 7, 8, 9, 10, 11, 12, 13, 14, 20, 21], [14]), ([19, 22, 0, 1, 2, 3, 4, 5, 6, 7, 8, 9, 10, 11, 12, 13, 14, 15, 16, 17, 18, 19, 20, 21, 22], [19])])
def arraslaw3_PointBoxes.B4 : List Nat := [0, 0, 3, 7, 15, 0, 0, 96, 224, 511, 0, 0, 3072, 7168, 16383, 0, 0, 98304, 229376, 524287, 1048575, 2097151, 4194303, 8388607]
theorem arraslaw3_PointBoxes.tab4 : rtab .any (opsOf Try.f7 4) = arraslaw3_PointBoxes.T4 := by kernel_rfl
theorem arraslaw3_PointBoxes.bits4 : waitsOk arraslaw3_PointBoxes.T4.2 arraslaw3_PointBoxes.B4 = true := by kernel_rfl
abbrev pointBoxesMask0 : Array Bool := #[false, false, false, false, false, false, false, false, false, false, false, false, false, false, false, false, false, false, false, false, false, false, false, false]
abbrev pointBoxesMask1 : Array Bool := #[true, false, false, false, false, false, false, false, false, false, false, false, false, false, false, false, false, false, false, false, false, false, false, false]
abbrev pointBoxesMask2 : Array Bool := #[true, true, false, false, false, false, false, false, false, false, false, false, false, false, false, false, false, false, false, false, false, false, false, false]
abbrev pointBoxesMask3 : Array Bool := #[true, true, true, false, false, false, false, false, false, false, false, false, false, false, false, false, false, false, false, false, false, false, false, false]
abbrev pointBoxesMask4 : Array Bool := #[true, true, true, false, false, true, false, false, false, false, false, false, false, false, false, false, false, false, false, false, false, false, false, false]
abbrev pointBoxesMask5 : Array Bool := #[true, true, true, false, false, true, true, false, false, false, false, false, false, false, false, false, false, false, false, false, false, false, false, false]
abbrev pointBoxesMask6 : Array Bool := #[true, true, true, false, false, true, true, true, false, false, false, false, false, false, false, false, false, false, false, false, false, false, false, false]
abbrev pointBoxesMask7 : Array Bool := #[true, true, true, false, false, true, true, true, false, false, true, false, false, false, false, false, false, false, false, false, false, false, false, false]
abbrev pointBoxesMask8 : Array Bool := #[true, true, true, false, false, true, true, true, false, false, true, true, false, false, false, false, false, false, false, false, false, false, false, false]
abbrev pointBoxesMask9 : Array Bool := #[true, true, true, false, false, true, true, true, false, false, true, true, true, false, false, false, false, false, false, false, false, false, false, false]
abbrev pointBoxesMask10 : Array Bool := #[true, true, true, false, false, true, true, true, false, false, true, true, true, false, false, true, false, false, false, false, false, false, false, false]
abbrev pointBoxesMask11 : Array Bool := #[true, true, true, false, false, true, true, true, false, false, true, true, true, false, false, true, true, false, false, false, false, false, false, false]
abbrev pointBoxesMask12 : Array Bool := #[true, true, true, false, false, true, true, true, false, false, true, true, true, false, false, true, true, true, false, false, false, false, false, false]
abbrev pointBoxesMask13 : Array Bool := #[true, true, true, true, false, true, true, true, false, false, true, true, true, false, false, true, true, true, false, false, false, false, false, false]
abbrev pointBoxesMask14 : Array Bool := #[true, true, true, true, false, true, true, true, true, false, true, true, true, false, false, true, true, true, false, false, false, false, false, false]
abbrev pointBoxesMask15 : Array Bool := #[true, true, true, true, false, true, true, true, true, false, true, true, true, true, false, true, true, true, false, false, false, false, false, false]
abbrev pointBoxesMask16 : Array Bool := #[true, true, true, true, false, true, true, true, true, false, true, true, true, true, false, true, true, true, true, false, false, false, false, false]
abbrev pointBoxesMask17 : Array Bool := #[true, true, true, true, true, true, true, true, true, false, true, true, true, true, false, true, true, true, true, false, false, false, false, false]
abbrev pointBoxesMask18 : Array Bool := #[true, true, true, true, true, true, true, true, true, true, true, true, true, true, false, true, true, true, true, false, false, false, false, false]
abbrev pointBoxesMask19 : Array Bool := #[true, true, true, true, true, true, true, true, true, true, true, true, true, true, true, true, true, true, true, false, false, false, false, false]
abbrev pointBoxesMask20 : Array Bool := #[true, true, true, true, true, true, true, true, true, true, true, true, true, true, true, true, true, true, true, true, false, false, false, false]
abbrev pointBoxesMask21 : Array Bool := #[true, true, true, true, true, true, true, true, true, true, true, true, true, true, true, true, true, true, true, true, true, false, false, false]
abbrev pointBoxesMask22 : Array Bool := #[true, true, true, true, true, true, true, true, true, true, true, true, true, true, true, true, true, true, true, true, true, true, false, false]
abbrev pointBoxesMask23 : Array Bool := #[true, true, true, true, true, true, true, true, true, true, true, true, true, true, true, true, true, true, true, true, true, true, true, false]
abbrev pointBoxesMask24 : Array Bool := #[true, true, true, true, true, true, true, true, true, true, true, true, true, true, true, true, true, true, true, true, true, true, true, true]
set_option maxHeartbeats 8000000 in
set_option maxRecDepth 100000 in
theorem arraslaw3_PointBoxes.calls (k : Nat) (A0 : Option Addr) (c0 : Nat) (l0 : List (S26)) (r : Bool) (w : World) (hr0 : Kd.C k26 w A0 l0.length l0) (hc0 : l0.length ≤ c0) (h : arraslaw3_PointBoxes.f k l0 = some r) :
  Calls Try.prog 7 #[.slice A0 l0.length c0] w fun e w' => e = .returned (.bool r) ∧ Below w.heap.size w w' := by
 have hu26 := Try.underlying26
 have HR0 := Aside0.mk hr0; have HC0 := Aside0.mk hc0; clear hr0 hc0; have HB := Aside0.mk (Below.refl w.heap.size w)
 have H : (arraslaw3_PointBoxes.l0 k l0 0) = some r := h
 clear h
 have H' := Aside0.mk H
 clear H
 go_enter Try.func7, Try.ntmps7
 go_wp2
 go_loopg [3] k (fun kq v3 w' => ∃ (x3_1 : Int), v3 = .int .i64 x3_1 ∧ Aside0 (arraslaw3_PointBoxes.l0 kq l0 x3_1 = some r) ∧ Aside0 (kq ≤ k) ∧ Aside0 (Below w.heap.size w w'))
 case atStart => exact ⟨(0), (by first | rfl | (simp; done) | (simp [*]; done)), H', ⟨Nat.le_refl _⟩, ⟨by repeat (first | (with_reducible first | exact HB.out | apply below_alloc | apply pw_below_drewN | apply below_drew1) | exact HB.out)⟩⟩
 case round =>
  clear H'
  obtain ⟨x3_1, rfl, HA, HK1, HB⟩ := hrel
  cases gk with
  | zero => exact absurd HA.out (by simp [arraslaw3_PointBoxes.l0])
  | succ k1 =>
   have H := HA.out
   clear HA
   simp only [arraslaw3_PointBoxes.l0] at H
   have HC2 := Aside0.mk H; clear H
   go_upto_region 2 with (fail)
   go_cut [25] (fun v25 wc => ∃ (kq : Nat) (x25_1 : Bool), v25 = .bool x25_1 ∧ Aside0 (arraslaw3_PointBoxes.j1 kq l0 x3_1 x25_1 = some r) ∧ Aside0 (kq ≤ k1) ∧ Aside0 (Below w.heap.size w wc))
   case first =>
    have H := HC2.out
    clear HC2
    by_cases c3 : x3_1 < (l0.length : Int)
    ·rw [if_pos c3] at H
     have c3b0 : decide (x3_1 < (l0.length : Int)) = true := decide_eq_true c3
     clear c3
     (first | rw [c3b0] | (simp only [i64_w, i32_w]; rw [c3b0]) | skip)
     have H' := Aside0.mk H
     clear H
     go_wp2
     go_meet
     case rel => exact ⟨_, (decide (x3_1 < 12)), (by first | rfl | (simp; done) | (simp [*]; done)), H', ⟨by have := HK1.out; first | omega | exact Nat.le_refl _⟩, ⟨by repeat (first | (with_reducible first | exact HB.out | apply below_alloc | apply pw_below_drewN | apply below_drew1) | exact HB.out)⟩⟩
    ·rw [if_neg c3] at H
     have c3b0 : decide (x3_1 < (l0.length : Int)) = false := decide_eq_false c3
     clear c3
     (first | rw [c3b0] | (simp only [i64_w, i32_w]; rw [c3b0]) | skip)
     have H' := Aside0.mk H
     clear H
     go_wp2
     go_meet
     case rel => exact ⟨_, (false), (by first | rfl | (simp; done) | (simp [*]; done)), H', ⟨by have := HK1.out; first | omega | exact Nat.le_refl _⟩, ⟨by repeat (first | (with_reducible first | exact HB.out | apply below_alloc | apply pw_below_drewN | apply below_drew1) | exact HB.out)⟩⟩
   case rest =>
    clear HC2
    try clear p2
    try clear c3
    try clear c3b0
    obtain ⟨kq, x25_1, rfl, HA, HJ1, HB⟩ := hcut
    cases kq with
    | zero => exact absurd HA.out (by simp [arraslaw3_PointBoxes.j1])
    | succ kj1 =>
     have H := HA.out
     clear HA
     simp only [arraslaw3_PointBoxes.j1] at H
     by_cases c4 : x25_1 = true
     ·subst c4
      have H1 : (if 0 ≤ x3_1 then (if x3_1 < (l0.length : Int) then ((arraslaw3_Ask_c.f ((rd_T26 l0 x3_1).f0) ((rd_T26 l0 x3_1).f1) ((rd_T26 l0 x3_1).f2.f0) ((rd_T26 l0 x3_1).f2.f1) ((rd_T26 l0 x3_1).f2.f2) ((rd_T26 l0 x3_1).f2.f3) ((rd_T26 l0 x3_1).f2.f4) ((rd_T26 l0 x3_1).f2.f5) ((rd_T26 l0 x3_1).f2.f6) ((rd_T26 l0 x3_1).f2.f7) 0).bind fun t463 => ((arraslaw3_Ask_c.f ((rd_T26 l0 x3_1).f0) ((rd_T26 l0 x3_1).f1) ((rd_T26 l0 x3_1).f2.f0) ((rd_T26 l0 x3_1).f2.f1) ((rd_T26 l0 x3_1).f2.f2) ((rd_T26 l0 x3_1).f2.f3) ((rd_T26 l0 x3_1).f2.f4) ((rd_T26 l0 x3_1).f2.f5) ((rd_T26 l0 x3_1).f2.f6) ((rd_T26 l0 x3_1).f2.f7) 1).bind fun t465 => ((arraslaw3_Ask_c.f ((rd_T26 l0 x3_1).f0) ((rd_T26 l0 x3_1).f1) ((rd_T26 l0 x3_1).f2.f0) ((rd_T26 l0 x3_1).f2.f1) ((rd_T26 l0 x3_1).f2.f2) ((rd_T26 l0 x3_1).f2.f3) ((rd_T26 l0 x3_1).f2.f4) ((rd_T26 l0 x3_1).f2.f5) ((rd_T26 l0 x3_1).f2.f6) ((rd_T26 l0 x3_1).f2.f7) 2).bind fun t467 => ((arraslaw3_Ask_c.f ((rd_T26 l0 x3_1).f0) ((rd_T26 l0 x3_1).f1) ((rd_T26 l0 x3_1).f2.f0) ((rd_T26 l0 x3_1).f2.f1) ((rd_T26 l0 x3_1).f2.f2) ((rd_T26 l0 x3_1).f2.f3) ((rd_T26 l0 x3_1).f2.f4) ((rd_T26 l0 x3_1).f2.f5) ((rd_T26 l0 x3_1).f2.f6) ((rd_T26 l0 x3_1).f2.f7) 3).bind fun t469 => ((point_Join.f kj1 t463 t465 t467 t469).bind fun bt470 => ((point_Meet.f kj1 t463 t465 t467 t469).bind fun bt473 => ((arrasref3_Box.f t463 t465).bind fun t476 => (if t476 = true then ((arrasref3_Box.f t467 t469).bind fun t477 => (arraslaw3_PointBoxes.j2 kj1 l0 x3_1 t463 t465 t467 t469 bt470.1 bt470.2.1 bt470.2.2 bt473.1 bt473.2.1 bt473.2.2 (!t477))) else (arraslaw3_PointBoxes.j2 kj1 l0 x3_1 t463 t465 t467 t469 bt470.1 bt470.2.1 bt470.2.2 bt473.1 bt473.2.1 bt473.2.2 true))))))))) else (none)) else (none)) = some r := by rw [if_pos rfl] at H; exact H
      clear H; have H := H1; clear H1
      by_cases c5 : 0 ≤ x3_1
      ·rw [if_pos c5] at H
       have c5b0 : decide (0 ≤ x3_1) = true := decide_eq_true c5
       clear c5
       by_cases c6 : x3_1 < (l0.length : Int)
       ·rw [if_pos c6] at H
        have c6b0 : decide (x3_1 < (l0.length : Int)) = true := decide_eq_true c6
        clear c6
        replace H := Option.bind_eq_some_iff.mp H
        obtain ⟨t463, A70, H⟩ := H
        replace H : ((arraslaw3_Ask_c.f ((rd_T26 l0 x3_1).f0) ((rd_T26 l0 x3_1).f1) ((rd_T26 l0 x3_1).f2.f0) ((rd_T26 l0 x3_1).f2.f1) ((rd_T26 l0 x3_1).f2.f2) ((rd_T26 l0 x3_1).f2.f3) ((rd_T26 l0 x3_1).f2.f4) ((rd_T26 l0 x3_1).f2.f5) ((rd_T26 l0 x3_1).f2.f6) ((rd_T26 l0 x3_1).f2.f7) 1).bind fun t465 => ((arraslaw3_Ask_c.f ((rd_T26 l0 x3_1).f0) ((rd_T26 l0 x3_1).f1) ((rd_T26 l0 x3_1).f2.f0) ((rd_T26 l0 x3_1).f2.f1) ((rd_T26 l0 x3_1).f2.f2) ((rd_T26 l0 x3_1).f2.f3) ((rd_T26 l0 x3_1).f2.f4) ((rd_T26 l0 x3_1).f2.f5) ((rd_T26 l0 x3_1).f2.f6) ((rd_T26 l0 x3_1).f2.f7) 2).bind fun t467 => ((arraslaw3_Ask_c.f ((rd_T26 l0 x3_1).f0) ((rd_T26 l0 x3_1).f1) ((rd_T26 l0 x3_1).f2.f0) ((rd_T26 l0 x3_1).f2.f1) ((rd_T26 l0 x3_1).f2.f2) ((rd_T26 l0 x3_1).f2.f3) ((rd_T26 l0 x3_1).f2.f4) ((rd_T26 l0 x3_1).f2.f5) ((rd_T26 l0 x3_1).f2.f6) ((rd_T26 l0 x3_1).f2.f7) 3).bind fun t469 => ((point_Join.f kj1 t463 t465 t467 t469).bind fun bt470 => ((point_Meet.f kj1 t463 t465 t467 t469).bind fun bt473 => ((arrasref3_Box.f t463 t465).bind fun t476 => (if t476 = true then ((arrasref3_Box.f t467 t469).bind fun t477 => (arraslaw3_PointBoxes.j2 kj1 l0 x3_1 t463 t465 t467 t469 bt470.1 bt470.2.1 bt470.2.2 bt473.1 bt473.2.1 bt473.2.2 (!t477))) else (arraslaw3_PointBoxes.j2 kj1 l0 x3_1 t463 t465 t467 t469 bt470.1 bt470.2.1 bt470.2.2 bt473.1 bt473.2.1 bt473.2.2 true)))))))) = some r := H
        have A7 := Aside0.mk A70; clear A70
        replace H := Option.bind_eq_some_iff.mp H
        obtain ⟨t465, A80, H⟩ := H
        replace H : ((arraslaw3_Ask_c.f ((rd_T26 l0 x3_1).f0) ((rd_T26 l0 x3_1).f1) ((rd_T26 l0 x3_1).f2.f0) ((rd_T26 l0 x3_1).f2.f1) ((rd_T26 l0 x3_1).f2.f2) ((rd_T26 l0 x3_1).f2.f3) ((rd_T26 l0 x3_1).f2.f4) ((rd_T26 l0 x3_1).f2.f5) ((rd_T26 l0 x3_1).f2.f6) ((rd_T26 l0 x3_1).f2.f7) 2).bind fun t467 => ((arraslaw3_Ask_c.f ((rd_T26 l0 x3_1).f0) ((rd_T26 l0 x3_1).f1) ((rd_T26 l0 x3_1).f2.f0) ((rd_T26 l0 x3_1).f2.f1) ((rd_T26 l0 x3_1).f2.f2) ((rd_T26 l0 x3_1).f2.f3) ((rd_T26 l0 x3_1).f2.f4) ((rd_T26 l0 x3_1).f2.f5) ((rd_T26 l0 x3_1).f2.f6) ((rd_T26 l0 x3_1).f2.f7) 3).bind fun t469 => ((point_Join.f kj1 t463 t465 t467 t469).bind fun bt470 => ((point_Meet.f kj1 t463 t465 t467 t469).bind fun bt473 => ((arrasref3_Box.f t463 t465).bind fun t476 => (if t476 = true then ((arrasref3_Box.f t467 t469).bind fun t477 => (arraslaw3_PointBoxes.j2 kj1 l0 x3_1 t463 t465 t467 t469 bt470.1 bt470.2.1 bt470.2.2 bt473.1 bt473.2.1 bt473.2.2 (!t477))) else (arraslaw3_PointBoxes.j2 kj1 l0 x3_1 t463 t465 t467 t469 bt470.1 bt470.2.1 bt470.2.2 bt473.1 bt473.2.1 bt473.2.2 true))))))) = some r := H
        have A8 := Aside0.mk A80; clear A80
        replace H := Option.bind_eq_some_iff.mp H
        obtain ⟨t467, A90, H⟩ := H
        replace H : ((arraslaw3_Ask_c.f ((rd_T26 l0 x3_1).f0) ((rd_T26 l0 x3_1).f1) ((rd_T26 l0 x3_1).f2.f0) ((rd_T26 l0 x3_1).f2.f1) ((rd_T26 l0 x3_1).f2.f2) ((rd_T26 l0 x3_1).f2.f3) ((rd_T26 l0 x3_1).f2.f4) ((rd_T26 l0 x3_1).f2.f5) ((rd_T26 l0 x3_1).f2.f6) ((rd_T26 l0 x3_1).f2.f7) 3).bind fun t469 => ((point_Join.f kj1 t463 t465 t467 t469).bind fun bt470 => ((point_Meet.f kj1 t463 t465 t467 t469).bind fun bt473 => ((arrasref3_Box.f t463 t465).bind fun t476 => (if t476 = true then ((arrasref3_Box.f t467 t469).bind fun t477 => (arraslaw3_PointBoxes.j2 kj1 l0 x3_1 t463 t465 t467 t469 bt470.1 bt470.2.1 bt470.2.2 bt473.1 bt473.2.1 bt473.2.2 (!t477))) else (arraslaw3_PointBoxes.j2 kj1 l0 x3_1 t463 t465 t467 t469 bt470.1 bt470.2.1 bt470.2.2 bt473.1 bt473.2.1 bt473.2.2 true)))))) = some r := H
        have A9 := Aside0.mk A90; clear A90
        replace H := Option.bind_eq_some_iff.mp H
        obtain ⟨t469, A100, H⟩ := H
        replace H : ((point_Join.f kj1 t463 t465 t467 t469).bind fun bt470 => ((point_Meet.f kj1 t463 t465 t467 t469).bind fun bt473 => ((arrasref3_Box.f t463 t465).bind fun t476 => (if t476 = true then ((arrasref3_Box.f t467 t469).bind fun t477 => (arraslaw3_PointBoxes.j2 kj1 l0 x3_1 t463 t465 t467 t469 bt470.1 bt470.2.1 bt470.2.2 bt473.1 bt473.2.1 bt473.2.2 (!t477))) else (arraslaw3_PointBoxes.j2 kj1 l0 x3_1 t463 t465 t467 t469 bt470.1 bt470.2.1 bt470.2.2 bt473.1 bt473.2.1 bt473.2.2 true))))) = some r := H
        have A10 := Aside0.mk A100; clear A100
        replace H := Option.bind_eq_some_iff.mp H
        obtain ⟨⟨t470, t471, t472⟩, A110, H⟩ := H
        replace H : ((point_Meet.f kj1 t463 t465 t467 t469).bind fun bt473 => ((arrasref3_Box.f t463 t465).bind fun t476 => (if t476 = true then ((arrasref3_Box.f t467 t469).bind fun t477 => (arraslaw3_PointBoxes.j2 kj1 l0 x3_1 t463 t465 t467 t469 t470 t471 t472 bt473.1 bt473.2.1 bt473.2.2 (!t477))) else (arraslaw3_PointBoxes.j2 kj1 l0 x3_1 t463 t465 t467 t469 t470 t471 t472 bt473.1 bt473.2.1 bt473.2.2 true)))) = some r := H
        have A11 := Aside0.mk A110; clear A110
        replace H := Option.bind_eq_some_iff.mp H
        obtain ⟨⟨t473, t474, t475⟩, A120, H⟩ := H
        replace H : ((arrasref3_Box.f t463 t465).bind fun t476 => (if t476 = true then ((arrasref3_Box.f t467 t469).bind fun t477 => (arraslaw3_PointBoxes.j2 kj1 l0 x3_1 t463 t465 t467 t469 t470 t471 t472 t473 t474 t475 (!t477))) else (arraslaw3_PointBoxes.j2 kj1 l0 x3_1 t463 t465 t467 t469 t470 t471 t472 t473 t474 t475 true))) = some r := H
        have A12 := Aside0.mk A120; clear A120; have HC13 := Aside0.mk H; clear H
        try go_wp2
        have n0_ := Aside0.mk (below_drew1 HB.out); clear HB; have HB := n0_; clear n0_; have p462 : 0 ≤ (x3_1 : Int) := of_decide_eq_true (by first | (with_reducible assumption) | assumption); have q462 : x3_1 < (l0.length : Int) := of_decide_eq_true (by first | (with_reducible assumption) | assumption)
        obtain ⟨ad462, e462, hx462_0, hx462_1, hx462_2, hx462_3, hx462_4, hx462_5, hx462_6, hx462_7, hx462_8, hx462_9⟩ := at_T26 HR0.out x3_1 p462 q462
        have hw462_9 := hx462_9; have hw462_8 := hx462_8; have hw462_7 := hx462_7; have hw462_6 := hx462_6; have hw462_5 := hx462_5; have hw462_4 := hx462_4; have hw462_3 := hx462_3; have hw462_2 := hx462_2; have hw462_1 := hx462_1; have hw462_0 := hx462_0; cases e462
        replace hx462_0 := (HB.out.cell (World.block_lt_of_cell? w _ hx462_0)).trans hx462_0
        replace hx462_1 := (HB.out.cell (World.block_lt_of_cell? w _ hx462_1)).trans hx462_1
        replace hx462_2 := (HB.out.cell (World.block_lt_of_cell? w _ hx462_2)).trans hx462_2
        replace hx462_3 := (HB.out.cell (World.block_lt_of_cell? w _ hx462_3)).trans hx462_3
        replace hx462_4 := (HB.out.cell (World.block_lt_of_cell? w _ hx462_4)).trans hx462_4
        replace hx462_5 := (HB.out.cell (World.block_lt_of_cell? w _ hx462_5)).trans hx462_5
        replace hx462_6 := (HB.out.cell (World.block_lt_of_cell? w _ hx462_6)).trans hx462_6
        replace hx462_7 := (HB.out.cell (World.block_lt_of_cell? w _ hx462_7)).trans hx462_7
        replace hx462_8 := (HB.out.cell (World.block_lt_of_cell? w _ hx462_8)).trans hx462_8
        replace hx462_9 := (HB.out.cell (World.block_lt_of_cell? w _ hx462_9)).trans hx462_9
        replace p462 := eq_true p462; replace q462 := eq_true q462; have p464 : 0 ≤ (x3_1 : Int) := of_decide_eq_true (by first | (with_reducible assumption) | assumption); have q464 : x3_1 < (l0.length : Int) := of_decide_eq_true (by first | (with_reducible assumption) | assumption)
        obtain ⟨ad464, e464, hx464_0, hx464_1, hx464_2, hx464_3, hx464_4, hx464_5, hx464_6, hx464_7, hx464_8, hx464_9⟩ := at_T26 HR0.out x3_1 p464 q464
        have hw464_9 := hx464_9; have hw464_8 := hx464_8; have hw464_7 := hx464_7; have hw464_6 := hx464_6; have hw464_5 := hx464_5; have hw464_4 := hx464_4; have hw464_3 := hx464_3; have hw464_2 := hx464_2; have hw464_1 := hx464_1; have hw464_0 := hx464_0; obtain rfl : ad462 = ad464 := (by injection e464)
        replace hx464_0 := (HB.out.cell (World.block_lt_of_cell? w _ hx464_0)).trans hx464_0
        replace hx464_1 := (HB.out.cell (World.block_lt_of_cell? w _ hx464_1)).trans hx464_1
        replace hx464_2 := (HB.out.cell (World.block_lt_of_cell? w _ hx464_2)).trans hx464_2
        replace hx464_3 := (HB.out.cell (World.block_lt_of_cell? w _ hx464_3)).trans hx464_3
        replace hx464_4 := (HB.out.cell (World.block_lt_of_cell? w _ hx464_4)).trans hx464_4
        replace hx464_5 := (HB.out.cell (World.block_lt_of_cell? w _ hx464_5)).trans hx464_5
        replace hx464_6 := (HB.out.cell (World.block_lt_of_cell? w _ hx464_6)).trans hx464_6
        replace hx464_7 := (HB.out.cell (World.block_lt_of_cell? w _ hx464_7)).trans hx464_7
        replace hx464_8 := (HB.out.cell (World.block_lt_of_cell? w _ hx464_8)).trans hx464_8
        replace hx464_9 := (HB.out.cell (World.block_lt_of_cell? w _ hx464_9)).trans hx464_9
        replace p464 := eq_true p464; replace q464 := eq_true q464; have p466 : 0 ≤ (x3_1 : Int) := of_decide_eq_true (by first | (with_reducible assumption) | assumption); have q466 : x3_1 < (l0.length : Int) := of_decide_eq_true (by first | (with_reducible assumption) | assumption)
        obtain ⟨ad466, e466, hx466_0, hx466_1, hx466_2, hx466_3, hx466_4, hx466_5, hx466_6, hx466_7, hx466_8, hx466_9⟩ := at_T26 HR0.out x3_1 p466 q466
        have hw466_9 := hx466_9; have hw466_8 := hx466_8; have hw466_7 := hx466_7; have hw466_6 := hx466_6; have hw466_5 := hx466_5; have hw466_4 := hx466_4; have hw466_3 := hx466_3; have hw466_2 := hx466_2; have hw466_1 := hx466_1; have hw466_0 := hx466_0; obtain rfl : ad462 = ad466 := (by injection e466)
        replace hx466_0 := (HB.out.cell (World.block_lt_of_cell? w _ hx466_0)).trans hx466_0
        replace hx466_1 := (HB.out.cell (World.block_lt_of_cell? w _ hx466_1)).trans hx466_1
        replace hx466_2 := (HB.out.cell (World.block_lt_of_cell? w _ hx466_2)).trans hx466_2
        replace hx466_3 := (HB.out.cell (World.block_lt_of_cell? w _ hx466_3)).trans hx466_3
        replace hx466_4 := (HB.out.cell (World.block_lt_of_cell? w _ hx466_4)).trans hx466_4
        replace hx466_5 := (HB.out.cell (World.block_lt_of_cell? w _ hx466_5)).trans hx466_5
        replace hx466_6 := (HB.out.cell (World.block_lt_of_cell? w _ hx466_6)).trans hx466_6
        replace hx466_7 := (HB.out.cell (World.block_lt_of_cell? w _ hx466_7)).trans hx466_7
        replace hx466_8 := (HB.out.cell (World.block_lt_of_cell? w _ hx466_8)).trans hx466_8
        replace hx466_9 := (HB.out.cell (World.block_lt_of_cell? w _ hx466_9)).trans hx466_9
        replace p466 := eq_true p466; replace q466 := eq_true q466; have p468 : 0 ≤ (x3_1 : Int) := of_decide_eq_true (by first | (with_reducible assumption) | assumption); have q468 : x3_1 < (l0.length : Int) := of_decide_eq_true (by first | (with_reducible assumption) | assumption)
        obtain ⟨ad468, e468, hx468_0, hx468_1, hx468_2, hx468_3, hx468_4, hx468_5, hx468_6, hx468_7, hx468_8, hx468_9⟩ := at_T26 HR0.out x3_1 p468 q468
        have hw468_9 := hx468_9; have hw468_8 := hx468_8; have hw468_7 := hx468_7; have hw468_6 := hx468_6; have hw468_5 := hx468_5; have hw468_4 := hx468_4; have hw468_3 := hx468_3; have hw468_2 := hx468_2; have hw468_1 := hx468_1; have hw468_0 := hx468_0; obtain rfl : ad462 = ad468 := (by injection e468)
        replace hx468_0 := (HB.out.cell (World.block_lt_of_cell? w _ hx468_0)).trans hx468_0
        replace hx468_1 := (HB.out.cell (World.block_lt_of_cell? w _ hx468_1)).trans hx468_1
        replace hx468_2 := (HB.out.cell (World.block_lt_of_cell? w _ hx468_2)).trans hx468_2
        replace hx468_3 := (HB.out.cell (World.block_lt_of_cell? w _ hx468_3)).trans hx468_3
        replace hx468_4 := (HB.out.cell (World.block_lt_of_cell? w _ hx468_4)).trans hx468_4
        replace hx468_5 := (HB.out.cell (World.block_lt_of_cell? w _ hx468_5)).trans hx468_5
        replace hx468_6 := (HB.out.cell (World.block_lt_of_cell? w _ hx468_6)).trans hx468_6
        replace hx468_7 := (HB.out.cell (World.block_lt_of_cell? w _ hx468_7)).trans hx468_7
        replace hx468_8 := (HB.out.cell (World.block_lt_of_cell? w _ hx468_8)).trans hx468_8
        replace hx468_9 := (HB.out.cell (World.block_lt_of_cell? w _ hx468_9)).trans hx468_9
        replace p468 := eq_true p468; replace q468 := eq_true q468
        refine start_ (n := 24) (S := fun w' => w'.cell? (ad462.add ((x3_1).toNat * 10)) = some (.int .i64 ((rd_T26 l0 x3_1).f0)) ∧ w'.cell? ⟨(ad462.add ((x3_1).toNat * 10)).block, (ad462.add ((x3_1).toNat * 10)).off + 1, none⟩ = some (.int .i64 ((rd_T26 l0 x3_1).f1)) ∧ w'.cell? ⟨(ad462.add ((x3_1).toNat * 10)).block, (ad462.add ((x3_1).toNat * 10)).off + 2, none⟩ = some (.float .f64 ((rd_T26 l0 x3_1).f2.f0)) ∧ w'.cell? ⟨(ad462.add ((x3_1).toNat * 10)).block, (ad462.add ((x3_1).toNat * 10)).off + 3, none⟩ = some (.float .f64 ((rd_T26 l0 x3_1).f2.f1)) ∧ w'.cell? ⟨(ad462.add ((x3_1).toNat * 10)).block, (ad462.add ((x3_1).toNat * 10)).off + 4, none⟩ = some (.float .f64 ((rd_T26 l0 x3_1).f2.f2)) ∧ w'.cell? ⟨(ad462.add ((x3_1).toNat * 10)).block, (ad462.add ((x3_1).toNat * 10)).off + 5, none⟩ = some (.float .f64 ((rd_T26 l0 x3_1).f2.f3)) ∧ w'.cell? ⟨(ad462.add ((x3_1).toNat * 10)).block, (ad462.add ((x3_1).toNat * 10)).off + 6, none⟩ = some (.float .f64 ((rd_T26 l0 x3_1).f2.f4)) ∧ w'.cell? ⟨(ad462.add ((x3_1).toNat * 10)).block, (ad462.add ((x3_1).toNat * 10)).off + 7, none⟩ = some (.float .f64 ((rd_T26 l0 x3_1).f2.f5)) ∧ w'.cell? ⟨(ad462.add ((x3_1).toNat * 10)).block, (ad462.add ((x3_1).toNat * 10)).off + 8, none⟩ = some (.float .f64 ((rd_T26 l0 x3_1).f2.f6)) ∧ w'.cell? ⟨(ad462.add ((x3_1).toNat * 10)).block, (ad462.add ((x3_1).toNat * 10)).off + 9, none⟩ = some (.float .f64 ((rd_T26 l0 x3_1).f2.f7)) ∧ w'.cell? (ad462.add ((x3_1).toNat * 10)) = some (.int .i64 ((rd_T26 l0 x3_1).f0)) ∧ w'.cell? ⟨(ad462.add ((x3_1).toNat * 10)).block, (ad462.add ((x3_1).toNat * 10)).off + 1, none⟩ = some (.int .i64 ((rd_T26 l0 x3_1).f1)) ∧ w'.cell? ⟨(ad462.add ((x3_1).toNat * 10)).block, (ad462.add ((x3_1).toNat * 10)).off + 2, none⟩ = some (.float .f64 ((rd_T26 l0 x3_1).f2.f0)) ∧ w'.cell? ⟨(ad462.add ((x3_1).toNat * 10)).block, (ad462.add ((x3_1).toNat * 10)).off + 3, none⟩ = some (.float .f64 ((rd_T26 l0 x3_1).f2.f1)) ∧ w'.cell? ⟨(ad462.add ((x3_1).toNat * 10)).block, (ad462.add ((x3_1).toNat * 10)).off + 4, none⟩ = some (.float .f64 ((rd_T26 l0 x3_1).f2.f2)) ∧ w'.cell? ⟨(ad462.add ((x3_1).toNat * 10)).block, (ad462.add ((x3_1).toNat * 10)).off + 5, none⟩ = some (.float .f64 ((rd_T26 l0 x3_1).f2.f3)) ∧ w'.cell? ⟨(ad462.add ((x3_1).toNat * 10)).block, (ad462.add ((x3_1).toNat * 10)).off + 6, none⟩ = some (.float .f64 ((rd_T26 l0 x3_1).f2.f4)) ∧ w'.cell? ⟨(ad462.add ((x3_1).toNat * 10)).block, (ad462.add ((x3_1).toNat * 10)).off + 7, none⟩ = some (.float .f64 ((rd_T26 l0 x3_1).f2.f5)) ∧ w'.cell? ⟨(ad462.add ((x3_1).toNat * 10)).block, (ad462.add ((x3_1).toNat * 10)).off + 8, none⟩ = some (.float .f64 ((rd_T26 l0 x3_1).f2.f6)) ∧ w'.cell? ⟨(ad462.add ((x3_1).toNat * 10)).block, (ad462.add ((x3_1).toNat * 10)).off + 9, none⟩ = some (.float .f64 ((rd_T26 l0 x3_1).f2.f7)) ∧ w'.cell? (ad462.add ((x3_1).toNat * 10)) = some (.int .i64 ((rd_T26 l0 x3_1).f0)) ∧ w'.cell? ⟨(ad462.add ((x3_1).toNat * 10)).block, (ad462.add ((x3_1).toNat * 10)).off + 1, none⟩ = some (.int .i64 ((rd_T26 l0 x3_1).f1)) ∧ w'.cell? ⟨(ad462.add ((x3_1).toNat * 10)).block, (ad462.add ((x3_1).toNat * 10)).off + 2, none⟩ = some (.float .f64 ((rd_T26 l0 x3_1).f2.f0)) ∧ w'.cell? ⟨(ad462.add ((x3_1).toNat * 10)).block, (ad462.add ((x3_1).toNat * 10)).off + 3, none⟩ = some (.float .f64 ((rd_T26 l0 x3_1).f2.f1)) ∧ w'.cell? ⟨(ad462.add ((x3_1).toNat * 10)).block, (ad462.add ((x3_1).toNat * 10)).off + 4, none⟩ = some (.float .f64 ((rd_T26 l0 x3_1).f2.f2)) ∧ w'.cell? ⟨(ad462.add ((x3_1).toNat * 10)).block, (ad462.add ((x3_1).toNat * 10)).off + 5, none⟩ = some (.float .f64 ((rd_T26 l0 x3_1).f2.f3)) ∧ w'.cell? ⟨(ad462.add ((x3_1).toNat * 10)).block, (ad462.add ((x3_1).toNat * 10)).off + 6, none⟩ = some (.float .f64 ((rd_T26 l0 x3_1).f2.f4)) ∧ w'.cell? ⟨(ad462.add ((x3_1).toNat * 10)).block, (ad462.add ((x3_1).toNat * 10)).off + 7, none⟩ = some (.float .f64 ((rd_T26 l0 x3_1).f2.f5)) ∧ w'.cell? ⟨(ad462.add ((x3_1).toNat * 10)).block, (ad462.add ((x3_1).toNat * 10)).off + 8, none⟩ = some (.float .f64 ((rd_T26 l0 x3_1).f2.f6)) ∧ w'.cell? ⟨(ad462.add ((x3_1).toNat * 10)).block, (ad462.add ((x3_1).toNat * 10)).off + 9, none⟩ = some (.float .f64 ((rd_T26 l0 x3_1).f2.f7)) ∧ w'.cell? (ad462.add ((x3_1).toNat * 10)) = some (.int .i64 ((rd_T26 l0 x3_1).f0)) ∧ w'.cell? ⟨(ad462.add ((x3_1).toNat * 10)).block, (ad462.add ((x3_1).toNat * 10)).off + 1, none⟩ = some (.int .i64 ((rd_T26 l0 x3_1).f1)) ∧ w'.cell? ⟨(ad462.add ((x3_1).toNat * 10)).block, (ad462.add ((x3_1).toNat * 10)).off + 2, none⟩ = some (.float .f64 ((rd_T26 l0 x3_1).f2.f0)) ∧ w'.cell? ⟨(ad462.add ((x3_1).toNat * 10)).block, (ad462.add ((x3_1).toNat * 10)).off + 3, none⟩ = some (.float .f64 ((rd_T26 l0 x3_1).f2.f1)) ∧ w'.cell? ⟨(ad462.add ((x3_1).toNat * 10)).block, (ad462.add ((x3_1).toNat * 10)).off + 4, none⟩ = some (.float .f64 ((rd_T26 l0 x3_1).f2.f2)) ∧ w'.cell? ⟨(ad462.add ((x3_1).toNat * 10)).block, (ad462.add ((x3_1).toNat * 10)).off + 5, none⟩ = some (.float .f64 ((rd_T26 l0 x3_1).f2.f3)) ∧ w'.cell? ⟨(ad462.add ((x3_1).toNat * 10)).block, (ad462.add ((x3_1).toNat * 10)).off + 6, none⟩ = some (.float .f64 ((rd_T26 l0 x3_1).f2.f4)) ∧ w'.cell? ⟨(ad462.add ((x3_1).toNat * 10)).block, (ad462.add ((x3_1).toNat * 10)).off + 7, none⟩ = some (.float .f64 ((rd_T26 l0 x3_1).f2.f5)) ∧ w'.cell? ⟨(ad462.add ((x3_1).toNat * 10)).block, (ad462.add ((x3_1).toNat * 10)).off + 8, none⟩ = some (.float .f64 ((rd_T26 l0 x3_1).f2.f6)) ∧ w'.cell? ⟨(ad462.add ((x3_1).toNat * 10)).block, (ad462.add ((x3_1).toNat * 10)).off + 9, none⟩ = some (.float .f64 ((rd_T26 l0 x3_1).f2.f7))) (ds := []) pointBoxesMask0 (by kernel_rfl) rfl rfl ⟨((HB.out.cell (World.block_lt_of_cell? w _ hw462_0)).trans hw462_0), ((HB.out.cell (World.block_lt_of_cell? w _ hw462_1)).trans hw462_1), ((HB.out.cell (World.block_lt_of_cell? w _ hw462_2)).trans hw462_2), ((HB.out.cell (World.block_lt_of_cell? w _ hw462_3)).trans hw462_3), ((HB.out.cell (World.block_lt_of_cell? w _ hw462_4)).trans hw462_4), ((HB.out.cell (World.block_lt_of_cell? w _ hw462_5)).trans hw462_5), ((HB.out.cell (World.block_lt_of_cell? w _ hw462_6)).trans hw462_6), ((HB.out.cell (World.block_lt_of_cell? w _ hw462_7)).trans hw462_7), ((HB.out.cell (World.block_lt_of_cell? w _ hw462_8)).trans hw462_8), ((HB.out.cell (World.block_lt_of_cell? w _ hw462_9)).trans hw462_9), ((HB.out.cell (World.block_lt_of_cell? w _ hw464_0)).trans hw464_0), ((HB.out.cell (World.block_lt_of_cell? w _ hw464_1)).trans hw464_1), ((HB.out.cell (World.block_lt_of_cell? w _ hw464_2)).trans hw464_2), ((HB.out.cell (World.block_lt_of_cell? w _ hw464_3)).trans hw464_3), ((HB.out.cell (World.block_lt_of_cell? w _ hw464_4)).trans hw464_4), ((HB.out.cell (World.block_lt_of_cell? w _ hw464_5)).trans hw464_5), ((HB.out.cell (World.block_lt_of_cell? w _ hw464_6)).trans hw464_6), ((HB.out.cell (World.block_lt_of_cell? w _ hw464_7)).trans hw464_7), ((HB.out.cell (World.block_lt_of_cell? w _ hw464_8)).trans hw464_8), ((HB.out.cell (World.block_lt_of_cell? w _ hw464_9)).trans hw464_9), ((HB.out.cell (World.block_lt_of_cell? w _ hw466_0)).trans hw466_0), ((HB.out.cell (World.block_lt_of_cell? w _ hw466_1)).trans hw466_1), ((HB.out.cell (World.block_lt_of_cell? w _ hw466_2)).trans hw466_2), ((HB.out.cell (World.block_lt_of_cell? w _ hw466_3)).trans hw466_3), ((HB.out.cell (World.block_lt_of_cell? w _ hw466_4)).trans hw466_4), ((HB.out.cell (World.block_lt_of_cell? w _ hw466_5)).trans hw466_5), ((HB.out.cell (World.block_lt_of_cell? w _ hw466_6)).trans hw466_6), ((HB.out.cell (World.block_lt_of_cell? w _ hw466_7)).trans hw466_7), ((HB.out.cell (World.block_lt_of_cell? w _ hw466_8)).trans hw466_8), ((HB.out.cell (World.block_lt_of_cell? w _ hw466_9)).trans hw466_9), ((HB.out.cell (World.block_lt_of_cell? w _ hw468_0)).trans hw468_0), ((HB.out.cell (World.block_lt_of_cell? w _ hw468_1)).trans hw468_1), ((HB.out.cell (World.block_lt_of_cell? w _ hw468_2)).trans hw468_2), ((HB.out.cell (World.block_lt_of_cell? w _ hw468_3)).trans hw468_3), ((HB.out.cell (World.block_lt_of_cell? w _ hw468_4)).trans hw468_4), ((HB.out.cell (World.block_lt_of_cell? w _ hw468_5)).trans hw468_5), ((HB.out.cell (World.block_lt_of_cell? w _ hw468_6)).trans hw468_6), ((HB.out.cell (World.block_lt_of_cell? w _ hw468_7)).trans hw468_7), ((HB.out.cell (World.block_lt_of_cell? w _ hw468_8)).trans hw468_8), ((HB.out.cell (World.block_lt_of_cell? w _ hw468_9)).trans hw468_9)⟩ (fun hHeld => ?_); refine with_tabW arraslaw3_PointBoxes.tab4 arraslaw3_PointBoxes.bits4 (fun HT_ HW_ => ?_)
        generalize wc.drew = w14 at HB hx462_0 hx462_1 hx462_2 hx462_3 hx462_4 hx462_5 hx462_6 hx462_7 hx462_8 hx462_9 hx464_0 hx464_1 hx464_2 hx464_3 hx464_4 hx464_5 hx464_6 hx464_7 hx464_8 hx464_9 hx466_0 hx466_1 hx466_2 hx466_3 hx466_4 hx466_5 hx466_6 hx466_7 hx466_8 hx466_9 hx468_0 hx468_1 hx468_2 hx468_3 hx468_4 hx468_5 hx468_6 hx468_7 hx468_8 hx468_9 hHeld ⊢
        refine pure_ (i := 0) (N := some 28) (v := ?_) (a' := ?_) pointBoxesMask1 rfl rfl (any_of HT_.out (by kernel_rfl)) (fun _ _ _ h => h) (Or.inl ⟨by rfl, ?_⟩) ?_ ?_
        rotate_left
        ·intro w'; go_simp
         with_reducible rfl
        rotate_left
        ·simp only [Act.put, List.setIfInBounds_toArray, List.set_cons_zero, List.set_cons_succ, i64_w, i32_w]
         rfl
        refine pure_ (i := 1) (N := some 29) (v := ?_) (a' := ?_) pointBoxesMask2 rfl rfl (any_of HT_.out (by kernel_rfl)) (fun _ _ _ h => h) (Or.inl ⟨by rfl, ?_⟩) ?_ ?_
        rotate_left
        ·intro w'; go_simp
         with_reducible rfl
        rotate_left
        ·simp only [Act.put, List.setIfInBounds_toArray, List.set_cons_zero, List.set_cons_succ, i64_w, i32_w]
         rfl
        refine pure_ (i := 2) (N := some 30) (v := ?_) (a' := ?_) pointBoxesMask3 rfl rfl (any_of HT_.out (by kernel_rfl)) (fun _ _ _ h => h) (Or.inl ⟨by rfl, ?_⟩) ?_ ?_
        rotate_left
        ·intro w'; go_simp
         with_reducible rfl
        rotate_left
        ·simp only [Act.put, List.setIfInBounds_toArray, List.set_cons_zero, List.set_cons_succ, i64_w, i32_w]
         rfl
        refine pure_ (i := 5) (N := some 33) (v := ?_) (a' := ?_) pointBoxesMask4 rfl rfl (any_of HT_.out (by kernel_rfl)) (fun _ _ _ h => h) (Or.inl ⟨by rfl, ?_⟩) ?_ ?_
        rotate_left
        ·intro w'; go_simp
         with_reducible rfl
        rotate_left
        ·simp only [Act.put, List.setIfInBounds_toArray, List.set_cons_zero, List.set_cons_succ, i64_w, i32_w]
         rfl
        refine pure_ (i := 6) (N := some 34) (v := ?_) (a' := ?_) pointBoxesMask5 rfl rfl (any_of HT_.out (by kernel_rfl)) (fun _ _ _ h => h) (Or.inl ⟨by rfl, ?_⟩) ?_ ?_
        rotate_left
        ·intro w'; go_simp
         with_reducible rfl
        rotate_left
        ·simp only [Act.put, List.setIfInBounds_toArray, List.set_cons_zero, List.set_cons_succ, i64_w, i32_w]
         rfl
        refine pure_ (i := 7) (N := some 35) (v := ?_) (a' := ?_) pointBoxesMask6 rfl rfl (any_of HT_.out (by kernel_rfl)) (fun _ _ _ h => h) (Or.inl ⟨by rfl, ?_⟩) ?_ ?_
        rotate_left
        ·intro w'; go_simp
         with_reducible rfl
        rotate_left
        ·simp only [Act.put, List.setIfInBounds_toArray, List.set_cons_zero, List.set_cons_succ, i64_w, i32_w]
         rfl
        refine pure_ (i := 10) (N := some 38) (v := ?_) (a' := ?_) pointBoxesMask7 rfl rfl (any_of HT_.out (by kernel_rfl)) (fun _ _ _ h => h) (Or.inl ⟨by rfl, ?_⟩) ?_ ?_
        rotate_left
        ·intro w'; go_simp
         with_reducible rfl
        rotate_left
        ·simp only [Act.put, List.setIfInBounds_toArray, List.set_cons_zero, List.set_cons_succ, i64_w, i32_w]
         rfl
        refine pure_ (i := 11) (N := some 39) (v := ?_) (a' := ?_) pointBoxesMask8 rfl rfl (any_of HT_.out (by kernel_rfl)) (fun _ _ _ h => h) (Or.inl ⟨by rfl, ?_⟩) ?_ ?_
        rotate_left
        ·intro w'; go_simp
         with_reducible rfl
        rotate_left
        ·simp only [Act.put, List.setIfInBounds_toArray, List.set_cons_zero, List.set_cons_succ, i64_w, i32_w]
         rfl
        refine pure_ (i := 12) (N := some 40) (v := ?_) (a' := ?_) pointBoxesMask9 rfl rfl (any_of HT_.out (by kernel_rfl)) (fun _ _ _ h => h) (Or.inl ⟨by rfl, ?_⟩) ?_ ?_
        rotate_left
        ·intro w'; go_simp
         with_reducible rfl
        rotate_left
        ·simp only [Act.put, List.setIfInBounds_toArray, List.set_cons_zero, List.set_cons_succ, i64_w, i32_w]
         rfl
        refine pure_ (i := 15) (N := some 43) (v := ?_) (a' := ?_) pointBoxesMask10 rfl rfl (any_of HT_.out (by kernel_rfl)) (fun _ _ _ h => h) (Or.inl ⟨by rfl, ?_⟩) ?_ ?_
        rotate_left
        ·intro w'; go_simp
         with_reducible rfl
        rotate_left
        ·simp only [Act.put, List.setIfInBounds_toArray, List.set_cons_zero, List.set_cons_succ, i64_w, i32_w]
         rfl
        refine pure_ (i := 16) (N := some 44) (v := ?_) (a' := ?_) pointBoxesMask11 rfl rfl (any_of HT_.out (by kernel_rfl)) (fun _ _ _ h => h) (Or.inl ⟨by rfl, ?_⟩) ?_ ?_
        rotate_left
        ·intro w'; go_simp
         with_reducible rfl
        rotate_left
        ·simp only [Act.put, List.setIfInBounds_toArray, List.set_cons_zero, List.set_cons_succ, i64_w, i32_w]
         rfl
        refine pure_ (i := 17) (N := some 45) (v := ?_) (a' := ?_) pointBoxesMask12 rfl rfl (any_of HT_.out (by kernel_rfl)) (fun _ _ _ h => h) (Or.inl ⟨by rfl, ?_⟩) ?_ ?_
        rotate_left
        ·intro w'; go_simp
         with_reducible rfl
        rotate_left
        ·simp only [Act.put, List.setIfInBounds_toArray, List.set_cons_zero, List.set_cons_succ, i64_w, i32_w]
         rfl
        refine take_ (i := 3) (N := some 31) (v := ?_) (a' := ?_) pointBoxesMask13 rfl rfl (take_ofW HT_.out HW_.out (by kernel_rfl)) (fun _ _ _ h => h) (Or.inl ⟨by rfl, ?_⟩) hHeld ?_ ?_
        rotate_left
        ·rintro w' ⟨s0, s1, s2, s3, s4, s5, s6, s7, s8, s9, s10, s11, s12, s13, s14, s15, s16, s17, s18, s19, s20, s21, s22, s23, s24, s25, s26, s27, s28, s29, s30, s31, s32, s33, s34, s35, s36, s37, s38, s39⟩
         go_simp
         with_reducible rfl
        rotate_left
        ·simp only [Act.put, List.setIfInBounds_toArray, List.set_cons_zero, List.set_cons_succ, i64_w, i32_w]
         rfl
        refine take_ (i := 8) (N := some 36) (v := ?_) (a' := ?_) pointBoxesMask14 rfl rfl (take_ofW HT_.out HW_.out (by kernel_rfl)) (fun _ _ _ h => h) (Or.inl ⟨by rfl, ?_⟩) hHeld ?_ ?_
        rotate_left
        ·rintro w' ⟨s0, s1, s2, s3, s4, s5, s6, s7, s8, s9, s10, s11, s12, s13, s14, s15, s16, s17, s18, s19, s20, s21, s22, s23, s24, s25, s26, s27, s28, s29, s30, s31, s32, s33, s34, s35, s36, s37, s38, s39⟩
         go_simp
         with_reducible rfl
        rotate_left
        ·simp only [Act.put, List.setIfInBounds_toArray, List.set_cons_zero, List.set_cons_succ, i64_w, i32_w]
         rfl
        refine take_ (i := 13) (N := some 41) (v := ?_) (a' := ?_) pointBoxesMask15 rfl rfl (take_ofW HT_.out HW_.out (by kernel_rfl)) (fun _ _ _ h => h) (Or.inl ⟨by rfl, ?_⟩) hHeld ?_ ?_
        rotate_left
        ·rintro w' ⟨s0, s1, s2, s3, s4, s5, s6, s7, s8, s9, s10, s11, s12, s13, s14, s15, s16, s17, s18, s19, s20, s21, s22, s23, s24, s25, s26, s27, s28, s29, s30, s31, s32, s33, s34, s35, s36, s37, s38, s39⟩
         go_simp
         with_reducible rfl
        rotate_left
        ·simp only [Act.put, List.setIfInBounds_toArray, List.set_cons_zero, List.set_cons_succ, i64_w, i32_w]
         rfl
        refine take_ (i := 18) (N := some 46) (v := ?_) (a' := ?_) pointBoxesMask16 rfl rfl (take_ofW HT_.out HW_.out (by kernel_rfl)) (fun _ _ _ h => h) (Or.inl ⟨by rfl, ?_⟩) hHeld ?_ ?_
        rotate_left
        ·rintro w' ⟨s0, s1, s2, s3, s4, s5, s6, s7, s8, s9, s10, s11, s12, s13, s14, s15, s16, s17, s18, s19, s20, s21, s22, s23, s24, s25, s26, s27, s28, s29, s30, s31, s32, s33, s34, s35, s36, s37, s38, s39⟩
         go_simp
         with_reducible rfl
        rotate_left
        ·simp only [Act.put, List.setIfInBounds_toArray, List.set_cons_zero, List.set_cons_succ, i64_w, i32_w]
         rfl
        refine one_ (i := 4) (N := some 32) pointBoxesMask17 rfl rfl (one_of HT_.out (by kernel_rfl)) (by decide) (fun K hK => ?_)
        refine goes_ Try.func14 (by kernel_rfl) rfl #[.agg #[.int .i64 ((rd_T26 l0 x3_1).f0), .int .i64 ((rd_T26 l0 x3_1).f1), .float .f64 ((rd_T26 l0 x3_1).f2.f0), .float .f64 ((rd_T26 l0 x3_1).f2.f1), .float .f64 ((rd_T26 l0 x3_1).f2.f2), .float .f64 ((rd_T26 l0 x3_1).f2.f3), .float .f64 ((rd_T26 l0 x3_1).f2.f4), .float .f64 ((rd_T26 l0 x3_1).f2.f5), .float .f64 ((rd_T26 l0 x3_1).f2.f6), .float .f64 ((rd_T26 l0 x3_1).f2.f7)], .int .i64 0] (by rfl) rfl rfl (by (try simp only [List.map_toArray, List.map_cons, List.map_nil]); first | done | rfl | (simp only [List.length_drop, List.length_take]; rfl)) ?_
        with_reducible refine (arraslaw3_Ask_c.calls ((rd_T26 l0 x3_1).f0) ((rd_T26 l0 x3_1).f1) ((rd_T26 l0 x3_1).f2.f0) ((rd_T26 l0 x3_1).f2.f1) ((rd_T26 l0 x3_1).f2.f2) ((rd_T26 l0 x3_1).f2.f3) ((rd_T26 l0 x3_1).f2.f4) ((rd_T26 l0 x3_1).f2.f5) ((rd_T26 l0 x3_1).f2.f6) ((rd_T26 l0 x3_1).f2.f7) 0 t463 _ A7.out).mono ?_
        rintro e w15 ⟨rfl, hb⟩
        refine ⟨_, rfl, ?_⟩
        have n0_ := Aside0.mk (below_step (by repeat (first | (with_reducible first | exact HB.out | apply below_alloc | apply pw_below_drewN | apply below_drew1) | exact HB.out)) hb); clear HB; have HB := n0_; clear n0_
        (try clear hb)
        (try clear hb2)
        (try clear hk)
        (try clear hi)
        refine hK.out _ _ ⟨((HB.out.cell (World.block_lt_of_cell? w _ hw462_0)).trans hw462_0), ((HB.out.cell (World.block_lt_of_cell? w _ hw462_1)).trans hw462_1), ((HB.out.cell (World.block_lt_of_cell? w _ hw462_2)).trans hw462_2), ((HB.out.cell (World.block_lt_of_cell? w _ hw462_3)).trans hw462_3), ((HB.out.cell (World.block_lt_of_cell? w _ hw462_4)).trans hw462_4), ((HB.out.cell (World.block_lt_of_cell? w _ hw462_5)).trans hw462_5), ((HB.out.cell (World.block_lt_of_cell? w _ hw462_6)).trans hw462_6), ((HB.out.cell (World.block_lt_of_cell? w _ hw462_7)).trans hw462_7), ((HB.out.cell (World.block_lt_of_cell? w _ hw462_8)).trans hw462_8), ((HB.out.cell (World.block_lt_of_cell? w _ hw462_9)).trans hw462_9), ((HB.out.cell (World.block_lt_of_cell? w _ hw464_0)).trans hw464_0), ((HB.out.cell (World.block_lt_of_cell? w _ hw464_1)).trans hw464_1), ((HB.out.cell (World.block_lt_of_cell? w _ hw464_2)).trans hw464_2), ((HB.out.cell (World.block_lt_of_cell? w _ hw464_3)).trans hw464_3), ((HB.out.cell (World.block_lt_of_cell? w _ hw464_4)).trans hw464_4), ((HB.out.cell (World.block_lt_of_cell? w _ hw464_5)).trans hw464_5), ((HB.out.cell (World.block_lt_of_cell? w _ hw464_6)).trans hw464_6), ((HB.out.cell (World.block_lt_of_cell? w _ hw464_7)).trans hw464_7), ((HB.out.cell (World.block_lt_of_cell? w _ hw464_8)).trans hw464_8), ((HB.out.cell (World.block_lt_of_cell? w _ hw464_9)).trans hw464_9), ((HB.out.cell (World.block_lt_of_cell? w _ hw466_0)).trans hw466_0), ((HB.out.cell (World.block_lt_of_cell? w _ hw466_1)).trans hw466_1), ((HB.out.cell (World.block_lt_of_cell? w _ hw466_2)).trans hw466_2), ((HB.out.cell (World.block_lt_of_cell? w _ hw466_3)).trans hw466_3), ((HB.out.cell (World.block_lt_of_cell? w _ hw466_4)).trans hw466_4), ((HB.out.cell (World.block_lt_of_cell? w _ hw466_5)).trans hw466_5), ((HB.out.cell (World.block_lt_of_cell? w _ hw466_6)).trans hw466_6), ((HB.out.cell (World.block_lt_of_cell? w _ hw466_7)).trans hw466_7), ((HB.out.cell (World.block_lt_of_cell? w _ hw466_8)).trans hw466_8), ((HB.out.cell (World.block_lt_of_cell? w _ hw466_9)).trans hw466_9), ((HB.out.cell (World.block_lt_of_cell? w _ hw468_0)).trans hw468_0), ((HB.out.cell (World.block_lt_of_cell? w _ hw468_1)).trans hw468_1), ((HB.out.cell (World.block_lt_of_cell? w _ hw468_2)).trans hw468_2), ((HB.out.cell (World.block_lt_of_cell? w _ hw468_3)).trans hw468_3), ((HB.out.cell (World.block_lt_of_cell? w _ hw468_4)).trans hw468_4), ((HB.out.cell (World.block_lt_of_cell? w _ hw468_5)).trans hw468_5), ((HB.out.cell (World.block_lt_of_cell? w _ hw468_6)).trans hw468_6), ((HB.out.cell (World.block_lt_of_cell? w _ hw468_7)).trans hw468_7), ((HB.out.cell (World.block_lt_of_cell? w _ hw468_8)).trans hw468_8), ((HB.out.cell (World.block_lt_of_cell? w _ hw468_9)).trans hw468_9)⟩ (fun hHeld => ?_)
        clear hK K
        refine norm_ (a' := ?_) ?_ ?_
        rotate_left
        ·show Act.put _ (some 32) _ = _
         simp only [Act.put, List.setIfInBounds_toArray, List.set_cons_zero, List.set_cons_succ, i64_w, i32_w]
         rfl
        refine one_ (i := 9) (N := some 37) pointBoxesMask18 rfl rfl (one_of HT_.out (by kernel_rfl)) (by decide) (fun K hK => ?_)
        refine goes_ Try.func14 (by kernel_rfl) rfl #[.agg #[.int .i64 ((rd_T26 l0 x3_1).f0), .int .i64 ((rd_T26 l0 x3_1).f1), .float .f64 ((rd_T26 l0 x3_1).f2.f0), .float .f64 ((rd_T26 l0 x3_1).f2.f1), .float .f64 ((rd_T26 l0 x3_1).f2.f2), .float .f64 ((rd_T26 l0 x3_1).f2.f3), .float .f64 ((rd_T26 l0 x3_1).f2.f4), .float .f64 ((rd_T26 l0 x3_1).f2.f5), .float .f64 ((rd_T26 l0 x3_1).f2.f6), .float .f64 ((rd_T26 l0 x3_1).f2.f7)], .int .i64 1] (by rfl) rfl rfl (by (try simp only [List.map_toArray, List.map_cons, List.map_nil]); first | done | rfl | (simp only [List.length_drop, List.length_take]; rfl)) ?_
        with_reducible refine (arraslaw3_Ask_c.calls ((rd_T26 l0 x3_1).f0) ((rd_T26 l0 x3_1).f1) ((rd_T26 l0 x3_1).f2.f0) ((rd_T26 l0 x3_1).f2.f1) ((rd_T26 l0 x3_1).f2.f2) ((rd_T26 l0 x3_1).f2.f3) ((rd_T26 l0 x3_1).f2.f4) ((rd_T26 l0 x3_1).f2.f5) ((rd_T26 l0 x3_1).f2.f6) ((rd_T26 l0 x3_1).f2.f7) 1 t465 _ A8.out).mono ?_
        rintro e w16 ⟨rfl, hb⟩
        refine ⟨_, rfl, ?_⟩
        have n0_ := Aside0.mk (below_step (by repeat (first | (with_reducible first | exact HB.out | apply below_alloc | apply pw_below_drewN | apply below_drew1) | exact HB.out)) hb); clear HB; have HB := n0_; clear n0_
        (try clear hb)
        (try clear hb2)
        (try clear hk)
        (try clear hi)
        refine hK.out _ _ ⟨((HB.out.cell (World.block_lt_of_cell? w _ hw462_0)).trans hw462_0), ((HB.out.cell (World.block_lt_of_cell? w _ hw462_1)).trans hw462_1), ((HB.out.cell (World.block_lt_of_cell? w _ hw462_2)).trans hw462_2), ((HB.out.cell (World.block_lt_of_cell? w _ hw462_3)).trans hw462_3), ((HB.out.cell (World.block_lt_of_cell? w _ hw462_4)).trans hw462_4), ((HB.out.cell (World.block_lt_of_cell? w _ hw462_5)).trans hw462_5), ((HB.out.cell (World.block_lt_of_cell? w _ hw462_6)).trans hw462_6), ((HB.out.cell (World.block_lt_of_cell? w _ hw462_7)).trans hw462_7), ((HB.out.cell (World.block_lt_of_cell? w _ hw462_8)).trans hw462_8), ((HB.out.cell (World.block_lt_of_cell? w _ hw462_9)).trans hw462_9), ((HB.out.cell (World.block_lt_of_cell? w _ hw464_0)).trans hw464_0), ((HB.out.cell (World.block_lt_of_cell? w _ hw464_1)).trans hw464_1), ((HB.out.cell (World.block_lt_of_cell? w _ hw464_2)).trans hw464_2), ((HB.out.cell (World.block_lt_of_cell? w _ hw464_3)).trans hw464_3), ((HB.out.cell (World.block_lt_of_cell? w _ hw464_4)).trans hw464_4), ((HB.out.cell (World.block_lt_of_cell? w _ hw464_5)).trans hw464_5), ((HB.out.cell (World.block_lt_of_cell? w _ hw464_6)).trans hw464_6), ((HB.out.cell (World.block_lt_of_cell? w _ hw464_7)).trans hw464_7), ((HB.out.cell (World.block_lt_of_cell? w _ hw464_8)).trans hw464_8), ((HB.out.cell (World.block_lt_of_cell? w _ hw464_9)).trans hw464_9), ((HB.out.cell (World.block_lt_of_cell? w _ hw466_0)).trans hw466_0), ((HB.out.cell (World.block_lt_of_cell? w _ hw466_1)).trans hw466_1), ((HB.out.cell (World.block_lt_of_cell? w _ hw466_2)).trans hw466_2), ((HB.out.cell (World.block_lt_of_cell? w _ hw466_3)).trans hw466_3), ((HB.out.cell (World.block_lt_of_cell? w _ hw466_4)).trans hw466_4), ((HB.out.cell (World.block_lt_of_cell? w _ hw466_5)).trans hw466_5), ((HB.out.cell (World.block_lt_of_cell? w _ hw466_6)).trans hw466_6), ((HB.out.cell (World.block_lt_of_cell? w _ hw466_7)).trans hw466_7), ((HB.out.cell (World.block_lt_of_cell? w _ hw466_8)).trans hw466_8), ((HB.out.cell (World.block_lt_of_cell? w _ hw466_9)).trans hw466_9), ((HB.out.cell (World.block_lt_of_cell? w _ hw468_0)).trans hw468_0), ((HB.out.cell (World.block_lt_of_cell? w _ hw468_1)).trans hw468_1), ((HB.out.cell (World.block_lt_of_cell? w _ hw468_2)).trans hw468_2), ((HB.out.cell (World.block_lt_of_cell? w _ hw468_3)).trans hw468_3), ((HB.out.cell (World.block_lt_of_cell? w _ hw468_4)).trans hw468_4), ((HB.out.cell (World.block_lt_of_cell? w _ hw468_5)).trans hw468_5), ((HB.out.cell (World.block_lt_of_cell? w _ hw468_6)).trans hw468_6), ((HB.out.cell (World.block_lt_of_cell? w _ hw468_7)).trans hw468_7), ((HB.out.cell (World.block_lt_of_cell? w _ hw468_8)).trans hw468_8), ((HB.out.cell (World.block_lt_of_cell? w _ hw468_9)).trans hw468_9)⟩ (fun hHeld => ?_)
        clear hK K
        refine norm_ (a' := ?_) ?_ ?_
        rotate_left
        ·show Act.put _ (some 37) _ = _
         simp only [Act.put, List.setIfInBounds_toArray, List.set_cons_zero, List.set_cons_succ, i64_w, i32_w]
         rfl
        refine one_ (i := 14) (N := some 42) pointBoxesMask19 rfl rfl (one_of HT_.out (by kernel_rfl)) (by decide) (fun K hK => ?_)
        refine goes_ Try.func14 (by kernel_rfl) rfl #[.agg #[.int .i64 ((rd_T26 l0 x3_1).f0), .int .i64 ((rd_T26 l0 x3_1).f1), .float .f64 ((rd_T26 l0 x3_1).f2.f0), .float .f64 ((rd_T26 l0 x3_1).f2.f1), .float .f64 ((rd_T26 l0 x3_1).f2.f2), .float .f64 ((rd_T26 l0 x3_1).f2.f3), .float .f64 ((rd_T26 l0 x3_1).f2.f4), .float .f64 ((rd_T26 l0 x3_1).f2.f5), .float .f64 ((rd_T26 l0 x3_1).f2.f6), .float .f64 ((rd_T26 l0 x3_1).f2.f7)], .int .i64 2] (by rfl) rfl rfl (by (try simp only [List.map_toArray, List.map_cons, List.map_nil]); first | done | rfl | (simp only [List.length_drop, List.length_take]; rfl)) ?_
        with_reducible refine (arraslaw3_Ask_c.calls ((rd_T26 l0 x3_1).f0) ((rd_T26 l0 x3_1).f1) ((rd_T26 l0 x3_1).f2.f0) ((rd_T26 l0 x3_1).f2.f1) ((rd_T26 l0 x3_1).f2.f2) ((rd_T26 l0 x3_1).f2.f3) ((rd_T26 l0 x3_1).f2.f4) ((rd_T26 l0 x3_1).f2.f5) ((rd_T26 l0 x3_1).f2.f6) ((rd_T26 l0 x3_1).f2.f7) 2 t467 _ A9.out).mono ?_
        rintro e w17 ⟨rfl, hb⟩
        refine ⟨_, rfl, ?_⟩
        have n0_ := Aside0.mk (below_step (by repeat (first | (with_reducible first | exact HB.out | apply below_alloc | apply pw_below_drewN | apply below_drew1) | exact HB.out)) hb); clear HB; have HB := n0_; clear n0_
        (try clear hb)
        (try clear hb2)
        (try clear hk)
        (try clear hi)
        refine hK.out _ _ ⟨((HB.out.cell (World.block_lt_of_cell? w _ hw462_0)).trans hw462_0), ((HB.out.cell (World.block_lt_of_cell? w _ hw462_1)).trans hw462_1), ((HB.out.cell (World.block_lt_of_cell? w _ hw462_2)).trans hw462_2), ((HB.out.cell (World.block_lt_of_cell? w _ hw462_3)).trans hw462_3), ((HB.out.cell (World.block_lt_of_cell? w _ hw462_4)).trans hw462_4), ((HB.out.cell (World.block_lt_of_cell? w _ hw462_5)).trans hw462_5), ((HB.out.cell (World.block_lt_of_cell? w _ hw462_6)).trans hw462_6), ((HB.out.cell (World.block_lt_of_cell? w _ hw462_7)).trans hw462_7), ((HB.out.cell (World.block_lt_of_cell? w _ hw462_8)).trans hw462_8), ((HB.out.cell (World.block_lt_of_cell? w _ hw462_9)).trans hw462_9), ((HB.out.cell (World.block_lt_of_cell? w _ hw464_0)).trans hw464_0), ((HB.out.cell (World.block_lt_of_cell? w _ hw464_1)).trans hw464_1), ((HB.out.cell (World.block_lt_of_cell? w _ hw464_2)).trans hw464_2), ((HB.out.cell (World.block_lt_of_cell? w _ hw464_3)).trans hw464_3), ((HB.out.cell (World.block_lt_of_cell? w _ hw464_4)).trans hw464_4), ((HB.out.cell (World.block_lt_of_cell? w _ hw464_5)).trans hw464_5), ((HB.out.cell (World.block_lt_of_cell? w _ hw464_6)).trans hw464_6), ((HB.out.cell (World.block_lt_of_cell? w _ hw464_7)).trans hw464_7), ((HB.out.cell (World.block_lt_of_cell? w _ hw464_8)).trans hw464_8), ((HB.out.cell (World.block_lt_of_cell? w _ hw464_9)).trans hw464_9), ((HB.out.cell (World.block_lt_of_cell? w _ hw466_0)).trans hw466_0), ((HB.out.cell (World.block_lt_of_cell? w _ hw466_1)).trans hw466_1), ((HB.out.cell (World.block_lt_of_cell? w _ hw466_2)).trans hw466_2), ((HB.out.cell (World.block_lt_of_cell? w _ hw466_3)).trans hw466_3), ((HB.out.cell (World.block_lt_of_cell? w _ hw466_4)).trans hw466_4), ((HB.out.cell (World.block_lt_of_cell? w _ hw466_5)).trans hw466_5), ((HB.out.cell (World.block_lt_of_cell? w _ hw466_6)).trans hw466_6), ((HB.out.cell (World.block_lt_of_cell? w _ hw466_7)).trans hw466_7), ((HB.out.cell (World.block_lt_of_cell? w _ hw466_8)).trans hw466_8), ((HB.out.cell (World.block_lt_of_cell? w _ hw466_9)).trans hw466_9), ((HB.out.cell (World.block_lt_of_cell? w _ hw468_0)).trans hw468_0), ((HB.out.cell (World.block_lt_of_cell? w _ hw468_1)).trans hw468_1), ((HB.out.cell (World.block_lt_of_cell? w _ hw468_2)).trans hw468_2), ((HB.out.cell (World.block_lt_of_cell? w _ hw468_3)).trans hw468_3), ((HB.out.cell (World.block_lt_of_cell? w _ hw468_4)).trans hw468_4), ((HB.out.cell (World.block_lt_of_cell? w _ hw468_5)).trans hw468_5), ((HB.out.cell (World.block_lt_of_cell? w _ hw468_6)).trans hw468_6), ((HB.out.cell (World.block_lt_of_cell? w _ hw468_7)).trans hw468_7), ((HB.out.cell (World.block_lt_of_cell? w _ hw468_8)).trans hw468_8), ((HB.out.cell (World.block_lt_of_cell? w _ hw468_9)).trans hw468_9)⟩ (fun hHeld => ?_)
        clear hK K
        refine norm_ (a' := ?_) ?_ ?_
        rotate_left
        ·show Act.put _ (some 42) _ = _
         simp only [Act.put, List.setIfInBounds_toArray, List.set_cons_zero, List.set_cons_succ, i64_w, i32_w]
         rfl
        refine one_ (i := 19) (N := some 47) pointBoxesMask20 rfl rfl (one_of HT_.out (by kernel_rfl)) (by decide) (fun K hK => ?_)
        refine goes_ Try.func14 (by kernel_rfl) rfl #[.agg #[.int .i64 ((rd_T26 l0 x3_1).f0), .int .i64 ((rd_T26 l0 x3_1).f1), .float .f64 ((rd_T26 l0 x3_1).f2.f0), .float .f64 ((rd_T26 l0 x3_1).f2.f1), .float .f64 ((rd_T26 l0 x3_1).f2.f2), .float .f64 ((rd_T26 l0 x3_1).f2.f3), .float .f64 ((rd_T26 l0 x3_1).f2.f4), .float .f64 ((rd_T26 l0 x3_1).f2.f5), .float .f64 ((rd_T26 l0 x3_1).f2.f6), .float .f64 ((rd_T26 l0 x3_1).f2.f7)], .int .i64 3] (by rfl) rfl rfl (by (try simp only [List.map_toArray, List.map_cons, List.map_nil]); first | done | rfl | (simp only [List.length_drop, List.length_take]; rfl)) ?_
        with_reducible refine (arraslaw3_Ask_c.calls ((rd_T26 l0 x3_1).f0) ((rd_T26 l0 x3_1).f1) ((rd_T26 l0 x3_1).f2.f0) ((rd_T26 l0 x3_1).f2.f1) ((rd_T26 l0 x3_1).f2.f2) ((rd_T26 l0 x3_1).f2.f3) ((rd_T26 l0 x3_1).f2.f4) ((rd_T26 l0 x3_1).f2.f5) ((rd_T26 l0 x3_1).f2.f6) ((rd_T26 l0 x3_1).f2.f7) 3 t469 _ A10.out).mono ?_
        rintro e w18 ⟨rfl, hb⟩
        refine ⟨_, rfl, ?_⟩
        have n0_ := Aside0.mk (below_step (by repeat (first | (with_reducible first | exact HB.out | apply below_alloc | apply pw_below_drewN | apply below_drew1) | exact HB.out)) hb); clear HB; have HB := n0_; clear n0_
        (try clear hb)
        (try clear hb2)
        (try clear hk)
        (try clear hi)
        refine hK.out _ _ ⟨((HB.out.cell (World.block_lt_of_cell? w _ hw462_0)).trans hw462_0), ((HB.out.cell (World.block_lt_of_cell? w _ hw462_1)).trans hw462_1), ((HB.out.cell (World.block_lt_of_cell? w _ hw462_2)).trans hw462_2), ((HB.out.cell (World.block_lt_of_cell? w _ hw462_3)).trans hw462_3), ((HB.out.cell (World.block_lt_of_cell? w _ hw462_4)).trans hw462_4), ((HB.out.cell (World.block_lt_of_cell? w _ hw462_5)).trans hw462_5), ((HB.out.cell (World.block_lt_of_cell? w _ hw462_6)).trans hw462_6), ((HB.out.cell (World.block_lt_of_cell? w _ hw462_7)).trans hw462_7), ((HB.out.cell (World.block_lt_of_cell? w _ hw462_8)).trans hw462_8), ((HB.out.cell (World.block_lt_of_cell? w _ hw462_9)).trans hw462_9), ((HB.out.cell (World.block_lt_of_cell? w _ hw464_0)).trans hw464_0), ((HB.out.cell (World.block_lt_of_cell? w _ hw464_1)).trans hw464_1), ((HB.out.cell (World.block_lt_of_cell? w _ hw464_2)).trans hw464_2), ((HB.out.cell (World.block_lt_of_cell? w _ hw464_3)).trans hw464_3), ((HB.out.cell (World.block_lt_of_cell? w _ hw464_4)).trans hw464_4), ((HB.out.cell (World.block_lt_of_cell? w _ hw464_5)).trans hw464_5), ((HB.out.cell (World.block_lt_of_cell? w _ hw464_6)).trans hw464_6), ((HB.out.cell (World.block_lt_of_cell? w _ hw464_7)).trans hw464_7), ((HB.out.cell (World.block_lt_of_cell? w _ hw464_8)).trans hw464_8), ((HB.out.cell (World.block_lt_of_cell? w _ hw464_9)).trans hw464_9), ((HB.out.cell (World.block_lt_of_cell? w _ hw466_0)).trans hw466_0), ((HB.out.cell (World.block_lt_of_cell? w _ hw466_1)).trans hw466_1), ((HB.out.cell (World.block_lt_of_cell? w _ hw466_2)).trans hw466_2), ((HB.out.cell (World.block_lt_of_cell? w _ hw466_3)).trans hw466_3), ((HB.out.cell (World.block_lt_of_cell? w _ hw466_4)).trans hw466_4), ((HB.out.cell (World.block_lt_of_cell? w _ hw466_5)).trans hw466_5), ((HB.out.cell (World.block_lt_of_cell? w _ hw466_6)).trans hw466_6), ((HB.out.cell (World.block_lt_of_cell? w _ hw466_7)).trans hw466_7), ((HB.out.cell (World.block_lt_of_cell? w _ hw466_8)).trans hw466_8), ((HB.out.cell (World.block_lt_of_cell? w _ hw466_9)).trans hw466_9), ((HB.out.cell (World.block_lt_of_cell? w _ hw468_0)).trans hw468_0), ((HB.out.cell (World.block_lt_of_cell? w _ hw468_1)).trans hw468_1), ((HB.out.cell (World.block_lt_of_cell? w _ hw468_2)).trans hw468_2), ((HB.out.cell (World.block_lt_of_cell? w _ hw468_3)).trans hw468_3), ((HB.out.cell (World.block_lt_of_cell? w _ hw468_4)).trans hw468_4), ((HB.out.cell (World.block_lt_of_cell? w _ hw468_5)).trans hw468_5), ((HB.out.cell (World.block_lt_of_cell? w _ hw468_6)).trans hw468_6), ((HB.out.cell (World.block_lt_of_cell? w _ hw468_7)).trans hw468_7), ((HB.out.cell (World.block_lt_of_cell? w _ hw468_8)).trans hw468_8), ((HB.out.cell (World.block_lt_of_cell? w _ hw468_9)).trans hw468_9)⟩ (fun hHeld => ?_)
        clear hK K
        refine norm_ (a' := ?_) ?_ ?_
        rotate_left
        ·show Act.put _ (some 47) _ = _
         simp only [Act.put, List.setIfInBounds_toArray, List.set_cons_zero, List.set_cons_succ, i64_w, i32_w]
         rfl
        refine pure_ (i := 20) (N := some 4) (v := ?_) (a' := ?_) pointBoxesMask21 rfl rfl (any_of HT_.out (by kernel_rfl)) (fun _ _ _ h => h) (Or.inl ⟨by rfl, ?_⟩) ?_ ?_
        rotate_left
        ·intro w'; go_simp
         with_reducible rfl
        rotate_left
        ·simp only [Act.put, List.setIfInBounds_toArray, List.set_cons_zero, List.set_cons_succ, i64_w, i32_w]
         rfl
        refine pure_ (i := 21) (N := some 5) (v := ?_) (a' := ?_) pointBoxesMask22 rfl rfl (any_of HT_.out (by kernel_rfl)) (fun _ _ _ h => h) (Or.inl ⟨by rfl, ?_⟩) ?_ ?_
        rotate_left
        ·intro w'; go_simp
         with_reducible rfl
        rotate_left
        ·simp only [Act.put, List.setIfInBounds_toArray, List.set_cons_zero, List.set_cons_succ, i64_w, i32_w]
         rfl
        refine pure_ (i := 22) (N := some 6) (v := ?_) (a' := ?_) pointBoxesMask23 rfl rfl (any_of HT_.out (by kernel_rfl)) (fun _ _ _ h => h) (Or.inl ⟨by rfl, ?_⟩) ?_ ?_
        rotate_left
        ·intro w'; go_simp
         with_reducible rfl
        rotate_left
        ·simp only [Act.put, List.setIfInBounds_toArray, List.set_cons_zero, List.set_cons_succ, i64_w, i32_w]
         rfl
        refine pure_ (i := 23) (N := some 7) (v := ?_) (a' := ?_) pointBoxesMask24 rfl rfl (any_of HT_.out (by kernel_rfl)) (fun _ _ _ h => h) (Or.inl ⟨by rfl, ?_⟩) ?_ ?_
        rotate_left
        ·intro w'; go_simp
         with_reducible rfl
        rotate_left
        ·simp only [Act.put, List.setIfInBounds_toArray, List.set_cons_zero, List.set_cons_succ, i64_w, i32_w]
         rfl
        refine done_ (done_of HT_.out (by kernel_rfl)) ?_
        go_upto_region 7 with (first | ((with_reducible refine gate_callee (f := 29) rfl ?_); refine goesL_ (some 53) rfl rfl Try.func29 (by kernel_rfl) rfl #[.complex .f64 t463.1 t463.2, .complex .f64 t465.1 t465.2, .complex .f64 t467.1 t467.2, .complex .f64 t469.1 t469.2] rfl (by (try simp only [List.map_toArray, List.map_cons, List.map_nil]); first | done | rfl | (simp only [List.length_drop, List.length_take]; rfl)) ?_; (with_reducible refine (point_Join.calls kj1 t463 t465 t467 t469 t470 t471 t472 _ A11.out).mono ?_); rintro e w19 ⟨rfl, hb⟩; refine ⟨_, rfl, ?_⟩; have n0_ := Aside0.mk (below_step (by repeat (first | (with_reducible first | exact HB.out | apply below_alloc | apply pw_below_drewN | apply below_drew1) | exact HB.out)) hb); clear HB; have HB := n0_; clear n0_; (try clear hb); (try clear hb2); (try clear hk); (try clear hi)) | ((with_reducible refine gate_callee (f := 30) rfl ?_); refine goesL_ (some 62) rfl rfl Try.func30 (by kernel_rfl) rfl #[.complex .f64 t463.1 t463.2, .complex .f64 t465.1 t465.2, .complex .f64 t467.1 t467.2, .complex .f64 t469.1 t469.2] rfl (by (try simp only [List.map_toArray, List.map_cons, List.map_nil]); first | done | rfl | (simp only [List.length_drop, List.length_take]; rfl)) ?_; (with_reducible refine (point_Meet.calls kj1 t463 t465 t467 t469 t473 t474 t475 _ A12.out).mono ?_); rintro e w20 ⟨rfl, hb⟩; refine ⟨_, rfl, ?_⟩; have n0_ := Aside0.mk (below_step (by repeat (first | (with_reducible first | exact HB.out | apply below_alloc | apply pw_below_drewN | apply below_drew1) | exact HB.out)) hb); clear HB; have HB := n0_; clear n0_; (try clear hb); (try clear hb2); (try clear hk); (try clear hi)))
        (try simp only [Act.put, List.setIfInBounds_toArray, List.set_cons_zero, List.set_cons_succ])
        go_cut [75] (fun v75 wc => ∃ (kq : Nat) (x75_12 : Bool), v75 = .bool x75_12 ∧ Aside0 (arraslaw3_PointBoxes.j2 kq l0 x3_1 t463 t465 t467 t469 t470 t471 t472 t473 t474 t475 x75_12 = some r) ∧ Aside0 (kq ≤ kj1) ∧ Aside0 (Below w.heap.size w wc))
        case first =>
         have H := HC13.out
         clear HC13
         replace H := Option.bind_eq_some_iff.mp H
         obtain ⟨t476, A210, H⟩ := H
         replace H : (if t476 = true then ((arrasref3_Box.f t467 t469).bind fun t477 => (arraslaw3_PointBoxes.j2 kj1 l0 x3_1 t463 t465 t467 t469 t470 t471 t472 t473 t474 t475 (!t477))) else (arraslaw3_PointBoxes.j2 kj1 l0 x3_1 t463 t465 t467 t469 t470 t471 t472 t473 t474 t475 true)) = some r := H
         have A21 := Aside0.mk A210; clear A210
         by_cases c22 : t476 = true
         ·subst c22
          have H1 : ((arrasref3_Box.f t467 t469).bind fun t477 => (arraslaw3_PointBoxes.j2 kj1 l0 x3_1 t463 t465 t467 t469 t470 t471 t472 t473 t474 t475 (!t477))) = some r := by rw [if_pos rfl] at H; exact H
          clear H; have H := H1; clear H1
          replace H := Option.bind_eq_some_iff.mp H
          obtain ⟨t477, A230, H⟩ := H
          replace H : (arraslaw3_PointBoxes.j2 kj1 l0 x3_1 t463 t465 t467 t469 t470 t471 t472 t473 t474 t475 (!t477)) = some r := H
          have A23 := Aside0.mk A230; clear A230
          have H' := Aside0.mk H
          clear H
          go_wp2_with (first | ((with_reducible refine gate_callee (f := 24) rfl ?_); refine goesL_ (some 68) rfl rfl Try.func24 (by kernel_rfl) rfl #[.complex .f64 t463.1 t463.2, .complex .f64 t465.1 t465.2] rfl (by (try simp only [List.map_toArray, List.map_cons, List.map_nil]); first | done | rfl | (simp only [List.length_drop, List.length_take]; rfl)) ?_; (with_reducible refine (arrasref3_Box.calls t463 t465 true _ A21.out).mono ?_); rintro e w' ⟨rfl, ⟨nd, rfl⟩⟩; refine ⟨_, rfl, ?_⟩) | (go_at_call 24; (with_reducible refine (arrasref3_Box.calls t467 t469 t477 _ A23.out).mono ?_); rintro e w' ⟨rfl, ⟨nd, rfl⟩⟩))
          go_meet
          case rel => exact ⟨_, (!t477), (by first | rfl | (simp; done) | (simp [*]; done)), H', ⟨by have := HK1.out; have := HJ1.out; first | omega | exact Nat.le_refl _⟩, ⟨by repeat (first | (with_reducible first | exact HB.out | apply below_alloc | apply pw_below_drewN | apply below_drew1) | exact HB.out)⟩⟩
         ·replace c22 := Bool.eq_false_iff.mpr c22
          subst c22
          have H1 : (arraslaw3_PointBoxes.j2 kj1 l0 x3_1 t463 t465 t467 t469 t470 t471 t472 t473 t474 t475 true) = some r := by rw [if_neg (show ¬ (false = true) by decide)] at H; exact H
          clear H; have H := H1; clear H1
          have H' := Aside0.mk H
          clear H
          go_wp2_with (first | ((with_reducible refine gate_callee (f := 24) rfl ?_); refine goesL_ (some 68) rfl rfl Try.func24 (by kernel_rfl) rfl #[.complex .f64 t463.1 t463.2, .complex .f64 t465.1 t465.2] rfl (by (try simp only [List.map_toArray, List.map_cons, List.map_nil]); first | done | rfl | (simp only [List.length_drop, List.length_take]; rfl)) ?_; (with_reducible refine (arrasref3_Box.calls t463 t465 false _ A21.out).mono ?_); rintro e w' ⟨rfl, ⟨nd, rfl⟩⟩; refine ⟨_, rfl, ?_⟩))
          go_meet
          case rel => exact ⟨_, (true), (by first | rfl | (simp; done) | (simp [*]; done)), H', ⟨by have := HK1.out; have := HJ1.out; first | omega | exact Nat.le_refl _⟩, ⟨by repeat (first | (with_reducible first | exact HB.out | apply below_alloc | apply pw_below_drewN | apply below_drew1) | exact HB.out)⟩⟩
        case rest =>
         clear HC13
         try clear c1
         try clear c2
         try clear p2
         try clear c3
         try clear c3b0
         try clear c4
         try clear p4
         try clear q4
         try clear hx4
         try clear c5
         try clear c5b0
         try clear c6
         try clear c6b0
         try clear c7
         try clear c14
         try clear c22
         try clear hx462_0
         try clear hx462_1
         try clear hx462_2
         try clear hx462_3
         try clear hx462_4
         try clear hx462_5
         try clear hx462_6
         try clear hx462_7
         try clear hx462_8
         try clear hx462_9
         try clear hx464_0
         try clear hx464_1
         try clear hx464_2
         try clear hx464_3
         try clear hx464_4
         try clear hx464_5
         try clear hx464_6
         try clear hx464_7
         try clear hx464_8
         try clear hx464_9
         try clear hx466_0
         try clear hx466_1
         try clear hx466_2
         try clear hx466_3
         try clear hx466_4
         try clear hx466_5
         try clear hx466_6
         try clear hx466_7
         try clear hx466_8
         try clear hx466_9
         try clear hx468_0
         try clear hx468_1
         try clear hx468_2
         try clear hx468_3
         try clear hx468_4
         try clear hx468_5
         try clear hx468_6
         try clear hx468_7
         try clear hx468_8
         try clear hx468_9
         try clear p2
         try clear p462
         try clear p464
         try clear p466
         try clear p468
         try clear q462
         try clear q464
         try clear q466
         try clear q468
         obtain ⟨kq, x75_12, rfl, HA, HJ12, HB⟩ := hcut
         cases kq with
         | zero => exact absurd HA.out (by simp [arraslaw3_PointBoxes.j2])
         | succ kj12 =>
          have H := HA.out
          clear HA
          simp only [arraslaw3_PointBoxes.j2] at H
          by_cases c24 : x75_12 = true
          ·subst c24
           have H1 : ((arraslaw3_num.f t472).bind fun t478 => (if t478 = 1 then ((arraslaw3_num.f t475).bind fun t479 => (if t479 = 1 then (arraslaw3_PointBoxes.l0 kj12 l0 (wrap64 (x3_1 + 1))) else (some false))) else (some false))) = some r := by rw [if_pos rfl] at H; exact H
           clear H; have H := H1; clear H1
           replace H := Option.bind_eq_some_iff.mp H
           obtain ⟨t478, A250, H⟩ := H
           replace H : (if t478 = 1 then ((arraslaw3_num.f t475).bind fun t479 => (if t479 = 1 then (arraslaw3_PointBoxes.l0 kj12 l0 (wrap64 (x3_1 + 1))) else (some false))) else (some false)) = some r := H
           have A25 := Aside0.mk A250; clear A250
           by_cases c26 : t478 = 1
           ·rw [if_pos c26] at H
            have c26b0 : (t478 == 1) = true := beq_iff_eq.mpr c26
            have c26b1 : (t478 != 1) = false := bne_eq_false_iff_eq.mpr c26
            clear c26
            replace H := Option.bind_eq_some_iff.mp H
            obtain ⟨t479, A270, H⟩ := H
            replace H : (if t479 = 1 then (arraslaw3_PointBoxes.l0 kj12 l0 (wrap64 (x3_1 + 1))) else (some false)) = some r := H
            have A27 := Aside0.mk A270; clear A270
            by_cases c28 : t479 = 1
            ·rw [if_pos c28] at H
             have c28b0 : (t479 == 1) = true := beq_iff_eq.mpr c28
             have c28b1 : (t479 != 1) = false := bne_eq_false_iff_eq.mpr c28
             clear c28
             have H' := Aside0.mk H
             clear H
             go_wp2_with (first | ((with_reducible refine gate_callee (f := 17) rfl ?_); refine goesL_ (some 77) rfl rfl Try.func17 (by kernel_rfl) rfl #[.int .i64 t472] rfl (by (try simp only [List.map_toArray, List.map_cons, List.map_nil]); first | done | rfl | (simp only [List.length_drop, List.length_take]; rfl)) ?_; (with_reducible refine (arraslaw3_num.calls t472 t478 _ A25.out).mono ?_); rintro e w' ⟨rfl, ⟨nd, rfl⟩⟩; refine ⟨_, rfl, ?_⟩) | (go_at_call 17; (with_reducible refine (arraslaw3_num.calls t475 t479 _ A27.out).mono ?_); rintro e w' ⟨rfl, ⟨nd, rfl⟩⟩))
             go_roundg kj12
             case measure => have := HK1.out; have := HJ1.out; have := HJ12.out; omega
             case rel => exact ⟨(wrap64 (x3_1 + 1)), (by first | rfl | (simp; done) | (simp [*]; done)), H', ⟨by have := HK1.out; have := HJ1.out; have := HJ12.out; omega⟩, ⟨by repeat (first | (with_reducible first | exact HB.out | apply below_alloc | apply pw_below_drewN | apply below_drew1) | exact HB.out)⟩⟩
            ·rw [if_neg c28] at H
             have c28b0 : (t479 == 1) = false := beq_eq_false_iff_ne.mpr c28
             have c28b1 : (t479 != 1) = true := bne_iff_ne.mpr c28
             obtain rfl := Option.some.inj H
             go_wp2_with (first | ((with_reducible refine gate_callee (f := 17) rfl ?_); refine goesL_ (some 77) rfl rfl Try.func17 (by kernel_rfl) rfl #[.int .i64 t472] rfl (by (try simp only [List.map_toArray, List.map_cons, List.map_nil]); first | done | rfl | (simp only [List.length_drop, List.length_take]; rfl)) ?_; (with_reducible refine (arraslaw3_num.calls t472 t478 _ A25.out).mono ?_); rintro e w' ⟨rfl, ⟨nd, rfl⟩⟩; refine ⟨_, rfl, ?_⟩) | (go_at_call 17; (with_reducible refine (arraslaw3_num.calls t475 t479 _ A27.out).mono ?_); rintro e w' ⟨rfl, ⟨nd, rfl⟩⟩))
             go_ret
             exact ⟨by first | rfl | (simp [errW_none, errW_some] <;> rfl) | (simp [*, errW_none, errW_some] <;> rfl), by repeat (first | (with_reducible first | exact HB.out | apply below_alloc | apply pw_below_drewN | apply below_drew1) | exact HB.out)⟩
           ·rw [if_neg c26] at H
            have c26b0 : (t478 == 1) = false := beq_eq_false_iff_ne.mpr c26
            have c26b1 : (t478 != 1) = true := bne_iff_ne.mpr c26
            obtain rfl := Option.some.inj H
            go_wp2_with (first | ((with_reducible refine gate_callee (f := 17) rfl ?_); refine goesL_ (some 77) rfl rfl Try.func17 (by kernel_rfl) rfl #[.int .i64 t472] rfl (by (try simp only [List.map_toArray, List.map_cons, List.map_nil]); first | done | rfl | (simp only [List.length_drop, List.length_take]; rfl)) ?_; (with_reducible refine (arraslaw3_num.calls t472 t478 _ A25.out).mono ?_); rintro e w' ⟨rfl, ⟨nd, rfl⟩⟩; refine ⟨_, rfl, ?_⟩))
            go_ret
            exact ⟨by first | rfl | (simp [errW_none, errW_some] <;> rfl) | (simp [*, errW_none, errW_some] <;> rfl), by repeat (first | (with_reducible first | exact HB.out | apply below_alloc | apply pw_below_drewN | apply below_drew1) | exact HB.out)⟩
          ·replace c24 := Bool.eq_false_iff.mpr c24
           subst c24
           have H1 : ((arrasref3_Join.f t463 t465 t467 t469).bind fun bt480 => ((arrasref3_Meet.f t463 t465 t467 t469).bind fun bt482 => ((arraslaw3_num.f t472).bind fun t484 => (if t484 = 0 then ((arraslaw3_num.f t475).bind fun t485 => (if t485 = 0 then (if ((feq t470.1 bt480.1.1 && feq t470.2 bt480.1.2) = true) then (if ((feq t471.1 bt480.2.1 && feq t471.2 bt480.2.2) = true) then (if ((feq t473.1 bt482.1.1 && feq t473.2 bt482.1.2) = true) then (if ((feq t474.1 bt482.2.1 && feq t474.2 bt482.2.2) = true) then ((arraslaw3_clean.f t470).bind fun t486 => (if t486 = true then ((arraslaw3_clean.f t471).bind fun t487 => (if t487 = true then ((arraslaw3_clean.f t473).bind fun t488 => (if t488 = true then ((arraslaw3_clean.f t474).bind fun t489 => (if t489 = true then (arraslaw3_PointBoxes.l0 kj12 l0 (wrap64 (x3_1 + 1))) else (some false))) else (some false))) else (some false))) else (some false))) else (some false)) else (some false)) else (some false)) else (some false)) else (some false))) else (some false))))) = some r := by rw [if_neg (show ¬ (false = true) by decide)] at H; exact H
           clear H; have H := H1; clear H1
           replace H := Option.bind_eq_some_iff.mp H
           obtain ⟨⟨t480, t481⟩, A290, H⟩ := H
           replace H : ((arrasref3_Meet.f t463 t465 t467 t469).bind fun bt482 => ((arraslaw3_num.f t472).bind fun t484 => (if t484 = 0 then ((arraslaw3_num.f t475).bind fun t485 => (if t485 = 0 then (if ((feq t470.1 t480.1 && feq t470.2 t480.2) = true) then (if ((feq t471.1 t481.1 && feq t471.2 t481.2) = true) then (if ((feq t473.1 bt482.1.1 && feq t473.2 bt482.1.2) = true) then (if ((feq t474.1 bt482.2.1 && feq t474.2 bt482.2.2) = true) then ((arraslaw3_clean.f t470).bind fun t486 => (if t486 = true then ((arraslaw3_clean.f t471).bind fun t487 => (if t487 = true then ((arraslaw3_clean.f t473).bind fun t488 => (if t488 = true then ((arraslaw3_clean.f t474).bind fun t489 => (if t489 = true then (arraslaw3_PointBoxes.l0 kj12 l0 (wrap64 (x3_1 + 1))) else (some false))) else (some false))) else (some false))) else (some false))) else (some false)) else (some false)) else (some false)) else (some false)) else (some false))) else (some false)))) = some r := H
           have A29 := Aside0.mk A290; clear A290
           replace H := Option.bind_eq_some_iff.mp H
           obtain ⟨⟨t482, t483⟩, A300, H⟩ := H
           replace H : ((arraslaw3_num.f t472).bind fun t484 => (if t484 = 0 then ((arraslaw3_num.f t475).bind fun t485 => (if t485 = 0 then (if ((feq t470.1 t480.1 && feq t470.2 t480.2) = true) then (if ((feq t471.1 t481.1 && feq t471.2 t481.2) = true) then (if ((feq t473.1 t482.1 && feq t473.2 t482.2) = true) then (if ((feq t474.1 t483.1 && feq t474.2 t483.2) = true) then ((arraslaw3_clean.f t470).bind fun t486 => (if t486 = true then ((arraslaw3_clean.f t471).bind fun t487 => (if t487 = true then ((arraslaw3_clean.f t473).bind fun t488 => (if t488 = true then ((arraslaw3_clean.f t474).bind fun t489 => (if t489 = true then (arraslaw3_PointBoxes.l0 kj12 l0 (wrap64 (x3_1 + 1))) else (some false))) else (some false))) else (some false))) else (some false))) else (some false)) else (some false)) else (some false)) else (some false)) else (some false))) else (some false))) = some r := H
           have A30 := Aside0.mk A300; clear A300
           replace H := Option.bind_eq_some_iff.mp H
           obtain ⟨t484, A310, H⟩ := H
           replace H : (if t484 = 0 then ((arraslaw3_num.f t475).bind fun t485 => (if t485 = 0 then (if ((feq t470.1 t480.1 && feq t470.2 t480.2) = true) then (if ((feq t471.1 t481.1 && feq t471.2 t481.2) = true) then (if ((feq t473.1 t482.1 && feq t473.2 t482.2) = true) then (if ((feq t474.1 t483.1 && feq t474.2 t483.2) = true) then ((arraslaw3_clean.f t470).bind fun t486 => (if t486 = true then ((arraslaw3_clean.f t471).bind fun t487 => (if t487 = true then ((arraslaw3_clean.f t473).bind fun t488 => (if t488 = true then ((arraslaw3_clean.f t474).bind fun t489 => (if t489 = true then (arraslaw3_PointBoxes.l0 kj12 l0 (wrap64 (x3_1 + 1))) else (some false))) else (some false))) else (some false))) else (some false))) else (some false)) else (some false)) else (some false)) else (some false)) else (some false))) else (some false)) = some r := H
           have A31 := Aside0.mk A310; clear A310
           by_cases c32 : t484 = 0
           ·rw [if_pos c32] at H
            have c32b0 : (t484 == 0) = true := beq_iff_eq.mpr c32
            have c32b1 : (t484 != 0) = false := bne_eq_false_iff_eq.mpr c32
            clear c32
            replace H := Option.bind_eq_some_iff.mp H
            obtain ⟨t485, A330, H⟩ := H
            replace H : (if t485 = 0 then (if ((feq t470.1 t480.1 && feq t470.2 t480.2) = true) then (if ((feq t471.1 t481.1 && feq t471.2 t481.2) = true) then (if ((feq t473.1 t482.1 && feq t473.2 t482.2) = true) then (if ((feq t474.1 t483.1 && feq t474.2 t483.2) = true) then ((arraslaw3_clean.f t470).bind fun t486 => (if t486 = true then ((arraslaw3_clean.f t471).bind fun t487 => (if t487 = true then ((arraslaw3_clean.f t473).bind fun t488 => (if t488 = true then ((arraslaw3_clean.f t474).bind fun t489 => (if t489 = true then (arraslaw3_PointBoxes.l0 kj12 l0 (wrap64 (x3_1 + 1))) else (some false))) else (some false))) else (some false))) else (some false))) else (some false)) else (some false)) else (some false)) else (some false)) else (some false)) = some r := H
            have A33 := Aside0.mk A330; clear A330
            by_cases c34 : t485 = 0
            ·rw [if_pos c34] at H
             have c34b0 : (t485 == 0) = true := beq_iff_eq.mpr c34
             have c34b1 : (t485 != 0) = false := bne_eq_false_iff_eq.mpr c34
             clear c34
             by_cases c35 : ((feq t470.1 t480.1 && feq t470.2 t480.2) = true)
             ·rw [if_pos c35] at H
              have c35b0 : (feq t470.1 t480.1 && feq t470.2 t480.2) = true := c35
              clear c35
              by_cases c36 : ((feq t471.1 t481.1 && feq t471.2 t481.2) = true)
              ·rw [if_pos c36] at H
               have c36b0 : (feq t471.1 t481.1 && feq t471.2 t481.2) = true := c36
               clear c36
               by_cases c37 : ((feq t473.1 t482.1 && feq t473.2 t482.2) = true)
               ·rw [if_pos c37] at H
                have c37b0 : (feq t473.1 t482.1 && feq t473.2 t482.2) = true := c37
                clear c37
                by_cases c38 : ((feq t474.1 t483.1 && feq t474.2 t483.2) = true)
                ·rw [if_pos c38] at H
                 have c38b0 : (feq t474.1 t483.1 && feq t474.2 t483.2) = true := c38
                 clear c38
                 replace H := Option.bind_eq_some_iff.mp H
                 obtain ⟨t486, A390, H⟩ := H
                 replace H : (if t486 = true then ((arraslaw3_clean.f t471).bind fun t487 => (if t487 = true then ((arraslaw3_clean.f t473).bind fun t488 => (if t488 = true then ((arraslaw3_clean.f t474).bind fun t489 => (if t489 = true then (arraslaw3_PointBoxes.l0 kj12 l0 (wrap64 (x3_1 + 1))) else (some false))) else (some false))) else (some false))) else (some false)) = some r := H
                 have A39 := Aside0.mk A390; clear A390
                 by_cases c40 : t486 = true
                 ·subst c40
                  have H1 : ((arraslaw3_clean.f t471).bind fun t487 => (if t487 = true then ((arraslaw3_clean.f t473).bind fun t488 => (if t488 = true then ((arraslaw3_clean.f t474).bind fun t489 => (if t489 = true then (arraslaw3_PointBoxes.l0 kj12 l0 (wrap64 (x3_1 + 1))) else (some false))) else (some false))) else (some false))) = some r := by rw [if_pos rfl] at H; exact H
                  clear H; have H := H1; clear H1
                  replace H := Option.bind_eq_some_iff.mp H
                  obtain ⟨t487, A410, H⟩ := H
                  replace H : (if t487 = true then ((arraslaw3_clean.f t473).bind fun t488 => (if t488 = true then ((arraslaw3_clean.f t474).bind fun t489 => (if t489 = true then (arraslaw3_PointBoxes.l0 kj12 l0 (wrap64 (x3_1 + 1))) else (some false))) else (some false))) else (some false)) = some r := H
                  have A41 := Aside0.mk A410; clear A410
                  by_cases c42 : t487 = true
                  ·subst c42
                   have H1 : ((arraslaw3_clean.f t473).bind fun t488 => (if t488 = true then ((arraslaw3_clean.f t474).bind fun t489 => (if t489 = true then (arraslaw3_PointBoxes.l0 kj12 l0 (wrap64 (x3_1 + 1))) else (some false))) else (some false))) = some r := by rw [if_pos rfl] at H; exact H
                   clear H; have H := H1; clear H1
                   replace H := Option.bind_eq_some_iff.mp H
                   obtain ⟨t488, A430, H⟩ := H
                   replace H : (if t488 = true then ((arraslaw3_clean.f t474).bind fun t489 => (if t489 = true then (arraslaw3_PointBoxes.l0 kj12 l0 (wrap64 (x3_1 + 1))) else (some false))) else (some false)) = some r := H
                   have A43 := Aside0.mk A430; clear A430
                   by_cases c44 : t488 = true
                   ·subst c44
                    have H1 : ((arraslaw3_clean.f t474).bind fun t489 => (if t489 = true then (arraslaw3_PointBoxes.l0 kj12 l0 (wrap64 (x3_1 + 1))) else (some false))) = some r := by rw [if_pos rfl] at H; exact H
                    clear H; have H := H1; clear H1
                    replace H := Option.bind_eq_some_iff.mp H
                    obtain ⟨t489, A450, H⟩ := H
                    replace H : (if t489 = true then (arraslaw3_PointBoxes.l0 kj12 l0 (wrap64 (x3_1 + 1))) else (some false)) = some r := H
                    have A45 := Aside0.mk A450; clear A450
                    by_cases c46 : t489 = true
                    ·subst c46
                     have H1 : (arraslaw3_PointBoxes.l0 kj12 l0 (wrap64 (x3_1 + 1))) = some r := by rw [if_pos rfl] at H; exact H
                     clear H; have H := H1; clear H1
                     have H' := Aside0.mk H
                     clear H
                     go_wp2_with (first | ((with_reducible refine gate_callee (f := 31) rfl ?_); refine goesL_ (some 89) rfl rfl Try.func31 (by kernel_rfl) rfl #[.complex .f64 t463.1 t463.2, .complex .f64 t465.1 t465.2, .complex .f64 t467.1 t467.2, .complex .f64 t469.1 t469.2] rfl (by (try simp only [List.map_toArray, List.map_cons, List.map_nil]); first | done | rfl | (simp only [List.length_drop, List.length_take]; rfl)) ?_; (with_reducible refine (arrasref3_Join.calls t463 t465 t467 t469 t480 t481 _ A29.out).mono ?_); rintro e w47 ⟨rfl, hb⟩; refine ⟨_, rfl, ?_⟩; have n0_ := Aside0.mk (below_step (by repeat (first | (with_reducible first | exact HB.out | apply below_alloc | apply pw_below_drewN | apply below_drew1) | exact HB.out)) hb); clear HB; have HB := n0_; clear n0_; (try clear hb); (try clear hb2); (try clear hk); (try clear hi)) | ((with_reducible refine gate_callee (f := 32) rfl ?_); refine goesL_ (some 97) rfl rfl Try.func32 (by kernel_rfl) rfl #[.complex .f64 t463.1 t463.2, .complex .f64 t465.1 t465.2, .complex .f64 t467.1 t467.2, .complex .f64 t469.1 t469.2] rfl (by (try simp only [List.map_toArray, List.map_cons, List.map_nil]); first | done | rfl | (simp only [List.length_drop, List.length_take]; rfl)) ?_; (with_reducible refine (arrasref3_Meet.calls t463 t465 t467 t469 t482 t483 _ A30.out).mono ?_); rintro e w48 ⟨rfl, hb⟩; refine ⟨_, rfl, ?_⟩; have n0_ := Aside0.mk (below_step (by repeat (first | (with_reducible first | exact HB.out | apply below_alloc | apply pw_below_drewN | apply below_drew1) | exact HB.out)) hb); clear HB; have HB := n0_; clear n0_; (try clear hb); (try clear hb2); (try clear hk); (try clear hi)) | ((with_reducible refine gate_callee (f := 17) rfl ?_); refine goesL_ (some 101) rfl rfl Try.func17 (by kernel_rfl) rfl #[.int .i64 t472] rfl (by (try simp only [List.map_toArray, List.map_cons, List.map_nil]); first | done | rfl | (simp only [List.length_drop, List.length_take]; rfl)) ?_; (with_reducible refine (arraslaw3_num.calls t472 t484 _ A31.out).mono ?_); rintro e w' ⟨rfl, ⟨nd, rfl⟩⟩; refine ⟨_, rfl, ?_⟩) | (go_at_call 17; (with_reducible refine (arraslaw3_num.calls t475 t485 _ A33.out).mono ?_); rintro e w' ⟨rfl, ⟨nd, rfl⟩⟩) | (go_at_call 33; (with_reducible refine (arraslaw3_clean.calls t470 true _ A39.out).mono ?_); rintro e w' ⟨rfl, ⟨nd, rfl⟩⟩) | (go_at_call 33; (with_reducible refine (arraslaw3_clean.calls t471 true _ A41.out).mono ?_); rintro e w' ⟨rfl, ⟨nd, rfl⟩⟩) | (go_at_call 33; (with_reducible refine (arraslaw3_clean.calls t473 true _ A43.out).mono ?_); rintro e w' ⟨rfl, ⟨nd, rfl⟩⟩) | (go_at_call 33; (with_reducible refine (arraslaw3_clean.calls t474 true _ A45.out).mono ?_); rintro e w' ⟨rfl, ⟨nd, rfl⟩⟩))
                     go_roundg kj12
                     case measure => have := HK1.out; have := HJ1.out; have := HJ12.out; omega
                     case rel => exact ⟨(wrap64 (x3_1 + 1)), (by first | rfl | (simp; done) | (simp [*]; done)), H', ⟨by have := HK1.out; have := HJ1.out; have := HJ12.out; omega⟩, ⟨by repeat (first | (with_reducible first | exact HB.out | apply below_alloc | apply pw_below_drewN | apply below_drew1) | exact HB.out)⟩⟩
                    ·replace c46 := Bool.eq_false_iff.mpr c46
                     subst c46
                     have H1 : (some false) = some r := by rw [if_neg (show ¬ (false = true) by decide)] at H; exact H
                     clear H; have H := H1; clear H1
                     obtain rfl := Option.some.inj H
                     go_wp2_with (first | ((with_reducible refine gate_callee (f := 31) rfl ?_); refine goesL_ (some 89) rfl rfl Try.func31 (by kernel_rfl) rfl #[.complex .f64 t463.1 t463.2, .complex .f64 t465.1 t465.2, .complex .f64 t467.1 t467.2, .complex .f64 t469.1 t469.2] rfl (by (try simp only [List.map_toArray, List.map_cons, List.map_nil]); first | done | rfl | (simp only [List.length_drop, List.length_take]; rfl)) ?_; (with_reducible refine (arrasref3_Join.calls t463 t465 t467 t469 t480 t481 _ A29.out).mono ?_); rintro e w49 ⟨rfl, hb⟩; refine ⟨_, rfl, ?_⟩; have n0_ := Aside0.mk (below_step (by repeat (first | (with_reducible first | exact HB.out | apply below_alloc | apply pw_below_drewN | apply below_drew1) | exact HB.out)) hb); clear HB; have HB := n0_; clear n0_; (try clear hb); (try clear hb2); (try clear hk); (try clear hi)) | ((with_reducible refine gate_callee (f := 32) rfl ?_); refine goesL_ (some 97) rfl rfl Try.func32 (by kernel_rfl) rfl #[.complex .f64 t463.1 t463.2, .complex .f64 t465.1 t465.2, .complex .f64 t467.1 t467.2, .complex .f64 t469.1 t469.2] rfl (by (try simp only [List.map_toArray, List.map_cons, List.map_nil]); first | done | rfl | (simp only [List.length_drop, List.length_take]; rfl)) ?_; (with_reducible refine (arrasref3_Meet.calls t463 t465 t467 t469 t482 t483 _ A30.out).mono ?_); rintro e w50 ⟨rfl, hb⟩; refine ⟨_, rfl, ?_⟩; have n0_ := Aside0.mk (below_step (by repeat (first | (with_reducible first | exact HB.out | apply below_alloc | apply pw_below_drewN | apply below_drew1) | exact HB.out)) hb); clear HB; have HB := n0_; clear n0_; (try clear hb); (try clear hb2); (try clear hk); (try clear hi)) | ((with_reducible refine gate_callee (f := 17) rfl ?_); refine goesL_ (some 101) rfl rfl Try.func17 (by kernel_rfl) rfl #[.int .i64 t472] rfl (by (try simp only [List.map_toArray, List.map_cons, List.map_nil]); first | done | rfl | (simp only [List.length_drop, List.length_take]; rfl)) ?_; (with_reducible refine (arraslaw3_num.calls t472 t484 _ A31.out).mono ?_); rintro e w' ⟨rfl, ⟨nd, rfl⟩⟩; refine ⟨_, rfl, ?_⟩) | (go_at_call 17; (with_reducible refine (arraslaw3_num.calls t475 t485 _ A33.out).mono ?_); rintro e w' ⟨rfl, ⟨nd, rfl⟩⟩) | (go_at_call 33; (with_reducible refine (arraslaw3_clean.calls t470 true _ A39.out).mono ?_); rintro e w' ⟨rfl, ⟨nd, rfl⟩⟩) | (go_at_call 33; (with_reducible refine (arraslaw3_clean.calls t471 true _ A41.out).mono ?_); rintro e w' ⟨rfl, ⟨nd, rfl⟩⟩) | (go_at_call 33; (with_reducible refine (arraslaw3_clean.calls t473 true _ A43.out).mono ?_); rintro e w' ⟨rfl, ⟨nd, rfl⟩⟩) | (go_at_call 33; (with_reducible refine (arraslaw3_clean.calls t474 false _ A45.out).mono ?_); rintro e w' ⟨rfl, ⟨nd, rfl⟩⟩))
                     go_ret
                     exact ⟨by first | rfl | (simp [errW_none, errW_some] <;> rfl) | (simp [*, errW_none, errW_some] <;> rfl), by repeat (first | (with_reducible first | exact HB.out | apply below_alloc | apply pw_below_drewN | apply below_drew1) | exact HB.out)⟩
                   ·replace c44 := Bool.eq_false_iff.mpr c44
                    subst c44
                    have H1 : (some false) = some r := by rw [if_neg (show ¬ (false = true) by decide)] at H; exact H
                    clear H; have H := H1; clear H1
                    obtain rfl := Option.some.inj H
                    go_wp2_with (first | ((with_reducible refine gate_callee (f := 31) rfl ?_); refine goesL_ (some 89) rfl rfl Try.func31 (by kernel_rfl) rfl #[.complex .f64 t463.1 t463.2, .complex .f64 t465.1 t465.2, .complex .f64 t467.1 t467.2, .complex .f64 t469.1 t469.2] rfl (by (try simp only [List.map_toArray, List.map_cons, List.map_nil]); first | done | rfl | (simp only [List.length_drop, List.length_take]; rfl)) ?_; (with_reducible refine (arrasref3_Join.calls t463 t465 t467 t469 t480 t481 _ A29.out).mono ?_); rintro e w51 ⟨rfl, hb⟩; refine ⟨_, rfl, ?_⟩; have n0_ := Aside0.mk (below_step (by repeat (first | (with_reducible first | exact HB.out | apply below_alloc | apply pw_below_drewN | apply below_drew1) | exact HB.out)) hb); clear HB; have HB := n0_; clear n0_; (try clear hb); (try clear hb2); (try clear hk); (try clear hi)) | ((with_reducible refine gate_callee (f := 32) rfl ?_); refine goesL_ (some 97) rfl rfl Try.func32 (by kernel_rfl) rfl #[.complex .f64 t463.1 t463.2, .complex .f64 t465.1 t465.2, .complex .f64 t467.1 t467.2, .complex .f64 t469.1 t469.2] rfl (by (try simp only [List.map_toArray, List.map_cons, List.map_nil]); first | done | rfl | (simp only [List.length_drop, List.length_take]; rfl)) ?_; (with_reducible refine (arrasref3_Meet.calls t463 t465 t467 t469 t482 t483 _ A30.out).mono ?_); rintro e w52 ⟨rfl, hb⟩; refine ⟨_, rfl, ?_⟩; have n0_ := Aside0.mk (below_step (by repeat (first | (with_reducible first | exact HB.out | apply below_alloc | apply pw_below_drewN | apply below_drew1) | exact HB.out)) hb); clear HB; have HB := n0_; clear n0_; (try clear hb); (try clear hb2); (try clear hk); (try clear hi)) | ((with_reducible refine gate_callee (f := 17) rfl ?_); refine goesL_ (some 101) rfl rfl Try.func17 (by kernel_rfl) rfl #[.int .i64 t472] rfl (by (try simp only [List.map_toArray, List.map_cons, List.map_nil]); first | done | rfl | (simp only [List.length_drop, List.length_take]; rfl)) ?_; (with_reducible refine (arraslaw3_num.calls t472 t484 _ A31.out).mono ?_); rintro e w' ⟨rfl, ⟨nd, rfl⟩⟩; refine ⟨_, rfl, ?_⟩) | (go_at_call 17; (with_reducible refine (arraslaw3_num.calls t475 t485 _ A33.out).mono ?_); rintro e w' ⟨rfl, ⟨nd, rfl⟩⟩) | (go_at_call 33; (with_reducible refine (arraslaw3_clean.calls t470 true _ A39.out).mono ?_); rintro e w' ⟨rfl, ⟨nd, rfl⟩⟩) | (go_at_call 33; (with_reducible refine (arraslaw3_clean.calls t471 true _ A41.out).mono ?_); rintro e w' ⟨rfl, ⟨nd, rfl⟩⟩) | (go_at_call 33; (with_reducible refine (arraslaw3_clean.calls t473 false _ A43.out).mono ?_); rintro e w' ⟨rfl, ⟨nd, rfl⟩⟩))
                    go_ret
                    exact ⟨by first | rfl | (simp [errW_none, errW_some] <;> rfl) | (simp [*, errW_none, errW_some] <;> rfl), by repeat (first | (with_reducible first | exact HB.out | apply below_alloc | apply pw_below_drewN | apply below_drew1) | exact HB.out)⟩
                  ·replace c42 := Bool.eq_false_iff.mpr c42
                   subst c42
                   have H1 : (some false) = some r := by rw [if_neg (show ¬ (false = true) by decide)] at H; exact H
                   clear H; have H := H1; clear H1
                   obtain rfl := Option.some.inj H
                   go_wp2_with (first | ((with_reducible refine gate_callee (f := 31) rfl ?_); refine goesL_ (some 89) rfl rfl Try.func31 (by kernel_rfl) rfl #[.complex .f64 t463.1 t463.2, .complex .f64 t465.1 t465.2, .complex .f64 t467.1 t467.2, .complex .f64 t469.1 t469.2] rfl (by (try simp only [List.map_toArray, List.map_cons, List.map_nil]); first | done | rfl | (simp only [List.length_drop, List.length_take]; rfl)) ?_; (with_reducible refine (arrasref3_Join.calls t463 t465 t467 t469 t480 t481 _ A29.out).mono ?_); rintro e w53 ⟨rfl, hb⟩; refine ⟨_, rfl, ?_⟩; have n0_ := Aside0.mk (below_step (by repeat (first | (with_reducible first | exact HB.out | apply below_alloc | apply pw_below_drewN | apply below_drew1) | exact HB.out)) hb); clear HB; have HB := n0_; clear n0_; (try clear hb); (try clear hb2); (try clear hk); (try clear hi)) | ((with_reducible refine gate_callee (f := 32) rfl ?_); refine goesL_ (some 97) rfl rfl Try.func32 (by kernel_rfl) rfl #[.complex .f64 t463.1 t463.2, .complex .f64 t465.1 t465.2, .complex .f64 t467.1 t467.2, .complex .f64 t469.1 t469.2] rfl (by (try simp only [List.map_toArray, List.map_cons, List.map_nil]); first | done | rfl | (simp only [List.length_drop, List.length_take]; rfl)) ?_; (with_reducible refine (arrasref3_Meet.calls t463 t465 t467 t469 t482 t483 _ A30.out).mono ?_); rintro e w54 ⟨rfl, hb⟩; refine ⟨_, rfl, ?_⟩; have n0_ := Aside0.mk (below_step (by repeat (first | (with_reducible first | exact HB.out | apply below_alloc | apply pw_below_drewN | apply below_drew1) | exact HB.out)) hb); clear HB; have HB := n0_; clear n0_; (try clear hb); (try clear hb2); (try clear hk); (try clear hi)) | ((with_reducible refine gate_callee (f := 17) rfl ?_); refine goesL_ (some 101) rfl rfl Try.func17 (by kernel_rfl) rfl #[.int .i64 t472] rfl (by (try simp only [List.map_toArray, List.map_cons, List.map_nil]); first | done | rfl | (simp only [List.length_drop, List.length_take]; rfl)) ?_; (with_reducible refine (arraslaw3_num.calls t472 t484 _ A31.out).mono ?_); rintro e w' ⟨rfl, ⟨nd, rfl⟩⟩; refine ⟨_, rfl, ?_⟩) | (go_at_call 17; (with_reducible refine (arraslaw3_num.calls t475 t485 _ A33.out).mono ?_); rintro e w' ⟨rfl, ⟨nd, rfl⟩⟩) | (go_at_call 33; (with_reducible refine (arraslaw3_clean.calls t470 true _ A39.out).mono ?_); rintro e w' ⟨rfl, ⟨nd, rfl⟩⟩) | (go_at_call 33; (with_reducible refine (arraslaw3_clean.calls t471 false _ A41.out).mono ?_); rintro e w' ⟨rfl, ⟨nd, rfl⟩⟩))
                   go_ret
                   exact ⟨by first | rfl | (simp [errW_none, errW_some] <;> rfl) | (simp [*, errW_none, errW_some] <;> rfl), by repeat (first | (with_reducible first | exact HB.out | apply below_alloc | apply pw_below_drewN | apply below_drew1) | exact HB.out)⟩
                 ·replace c40 := Bool.eq_false_iff.mpr c40
                  subst c40
                  have H1 : (some false) = some r := by rw [if_neg (show ¬ (false = true) by decide)] at H; exact H
                  clear H; have H := H1; clear H1
                  obtain rfl := Option.some.inj H
                  go_wp2_with (first | ((with_reducible refine gate_callee (f := 31) rfl ?_); refine goesL_ (some 89) rfl rfl Try.func31 (by kernel_rfl) rfl #[.complex .f64 t463.1 t463.2, .complex .f64 t465.1 t465.2, .complex .f64 t467.1 t467.2, .complex .f64 t469.1 t469.2] rfl (by (try simp only [List.map_toArray, List.map_cons, List.map_nil]); first | done | rfl | (simp only [List.length_drop, List.length_take]; rfl)) ?_; (with_reducible refine (arrasref3_Join.calls t463 t465 t467 t469 t480 t481 _ A29.out).mono ?_); rintro e w55 ⟨rfl, hb⟩; refine ⟨_, rfl, ?_⟩; have n0_ := Aside0.mk (below_step (by repeat (first | (with_reducible first | exact HB.out | apply below_alloc | apply pw_below_drewN | apply below_drew1) | exact HB.out)) hb); clear HB; have HB := n0_; clear n0_; (try clear hb); (try clear hb2); (try clear hk); (try clear hi)) | ((with_reducible refine gate_callee (f := 32) rfl ?_); refine goesL_ (some 97) rfl rfl Try.func32 (by kernel_rfl) rfl #[.complex .f64 t463.1 t463.2, .complex .f64 t465.1 t465.2, .complex .f64 t467.1 t467.2, .complex .f64 t469.1 t469.2] rfl (by (try simp only [List.map_toArray, List.map_cons, List.map_nil]); first | done | rfl | (simp only [List.length_drop, List.length_take]; rfl)) ?_; (with_reducible refine (arrasref3_Meet.calls t463 t465 t467 t469 t482 t483 _ A30.out).mono ?_); rintro e w56 ⟨rfl, hb⟩; refine ⟨_, rfl, ?_⟩; have n0_ := Aside0.mk (below_step (by repeat (first | (with_reducible first | exact HB.out | apply below_alloc | apply pw_below_drewN | apply below_drew1) | exact HB.out)) hb); clear HB; have HB := n0_; clear n0_; (try clear hb); (try clear hb2); (try clear hk); (try clear hi)) | ((with_reducible refine gate_callee (f := 17) rfl ?_); refine goesL_ (some 101) rfl rfl Try.func17 (by kernel_rfl) rfl #[.int .i64 t472] rfl (by (try simp only [List.map_toArray, List.map_cons, List.map_nil]); first | done | rfl | (simp only [List.length_drop, List.length_take]; rfl)) ?_; (with_reducible refine (arraslaw3_num.calls t472 t484 _ A31.out).mono ?_); rintro e w' ⟨rfl, ⟨nd, rfl⟩⟩; refine ⟨_, rfl, ?_⟩) | (go_at_call 17; (with_reducible refine (arraslaw3_num.calls t475 t485 _ A33.out).mono ?_); rintro e w' ⟨rfl, ⟨nd, rfl⟩⟩) | (go_at_call 33; (with_reducible refine (arraslaw3_clean.calls t470 false _ A39.out).mono ?_); rintro e w' ⟨rfl, ⟨nd, rfl⟩⟩))
                  go_ret
                  exact ⟨by first | rfl | (simp [errW_none, errW_some] <;> rfl) | (simp [*, errW_none, errW_some] <;> rfl), by repeat (first | (with_reducible first | exact HB.out | apply below_alloc | apply pw_below_drewN | apply below_drew1) | exact HB.out)⟩
                ·rw [if_neg c38] at H
                 have c38b0 : (feq t474.1 t483.1 && feq t474.2 t483.2) = false := by simpa using c38
                 clear c38
                 obtain rfl := Option.some.inj H
                 go_wp2_with (first | ((with_reducible refine gate_callee (f := 31) rfl ?_); refine goesL_ (some 89) rfl rfl Try.func31 (by kernel_rfl) rfl #[.complex .f64 t463.1 t463.2, .complex .f64 t465.1 t465.2, .complex .f64 t467.1 t467.2, .complex .f64 t469.1 t469.2] rfl (by (try simp only [List.map_toArray, List.map_cons, List.map_nil]); first | done | rfl | (simp only [List.length_drop, List.length_take]; rfl)) ?_; (with_reducible refine (arrasref3_Join.calls t463 t465 t467 t469 t480 t481 _ A29.out).mono ?_); rintro e w57 ⟨rfl, hb⟩; refine ⟨_, rfl, ?_⟩; have n0_ := Aside0.mk (below_step (by repeat (first | (with_reducible first | exact HB.out | apply below_alloc | apply pw_below_drewN | apply below_drew1) | exact HB.out)) hb); clear HB; have HB := n0_; clear n0_; (try clear hb); (try clear hb2); (try clear hk); (try clear hi)) | ((with_reducible refine gate_callee (f := 32) rfl ?_); refine goesL_ (some 97) rfl rfl Try.func32 (by kernel_rfl) rfl #[.complex .f64 t463.1 t463.2, .complex .f64 t465.1 t465.2, .complex .f64 t467.1 t467.2, .complex .f64 t469.1 t469.2] rfl (by (try simp only [List.map_toArray, List.map_cons, List.map_nil]); first | done | rfl | (simp only [List.length_drop, List.length_take]; rfl)) ?_; (with_reducible refine (arrasref3_Meet.calls t463 t465 t467 t469 t482 t483 _ A30.out).mono ?_); rintro e w58 ⟨rfl, hb⟩; refine ⟨_, rfl, ?_⟩; have n0_ := Aside0.mk (below_step (by repeat (first | (with_reducible first | exact HB.out | apply below_alloc | apply pw_below_drewN | apply below_drew1) | exact HB.out)) hb); clear HB; have HB := n0_; clear n0_; (try clear hb); (try clear hb2); (try clear hk); (try clear hi)) | ((with_reducible refine gate_callee (f := 17) rfl ?_); refine goesL_ (some 101) rfl rfl Try.func17 (by kernel_rfl) rfl #[.int .i64 t472] rfl (by (try simp only [List.map_toArray, List.map_cons, List.map_nil]); first | done | rfl | (simp only [List.length_drop, List.length_take]; rfl)) ?_; (with_reducible refine (arraslaw3_num.calls t472 t484 _ A31.out).mono ?_); rintro e w' ⟨rfl, ⟨nd, rfl⟩⟩; refine ⟨_, rfl, ?_⟩) | (go_at_call 17; (with_reducible refine (arraslaw3_num.calls t475 t485 _ A33.out).mono ?_); rintro e w' ⟨rfl, ⟨nd, rfl⟩⟩))
                 go_ret
                 exact ⟨by first | rfl | (simp [errW_none, errW_some] <;> rfl) | (simp [*, errW_none, errW_some] <;> rfl), by repeat (first | (with_reducible first | exact HB.out | apply below_alloc | apply pw_below_drewN | apply below_drew1) | exact HB.out)⟩
               ·rw [if_neg c37] at H
                have c37b0 : (feq t473.1 t482.1 && feq t473.2 t482.2) = false := by simpa using c37
                clear c37
                obtain rfl := Option.some.inj H
                go_wp2_with (first | ((with_reducible refine gate_callee (f := 31) rfl ?_); refine goesL_ (some 89) rfl rfl Try.func31 (by kernel_rfl) rfl #[.complex .f64 t463.1 t463.2, .complex .f64 t465.1 t465.2, .complex .f64 t467.1 t467.2, .complex .f64 t469.1 t469.2] rfl (by (try simp only [List.map_toArray, List.map_cons, List.map_nil]); first | done | rfl | (simp only [List.length_drop, List.length_take]; rfl)) ?_; (with_reducible refine (arrasref3_Join.calls t463 t465 t467 t469 t480 t481 _ A29.out).mono ?_); rintro e w59 ⟨rfl, hb⟩; refine ⟨_, rfl, ?_⟩; have n0_ := Aside0.mk (below_step (by repeat (first | (with_reducible first | exact HB.out | apply below_alloc | apply pw_below_drewN | apply below_drew1) | exact HB.out)) hb); clear HB; have HB := n0_; clear n0_; (try clear hb); (try clear hb2); (try clear hk); (try clear hi)) | ((with_reducible refine gate_callee (f := 32) rfl ?_); refine goesL_ (some 97) rfl rfl Try.func32 (by kernel_rfl) rfl #[.complex .f64 t463.1 t463.2, .complex .f64 t465.1 t465.2, .complex .f64 t467.1 t467.2, .complex .f64 t469.1 t469.2] rfl (by (try simp only [List.map_toArray, List.map_cons, List.map_nil]); first | done | rfl | (simp only [List.length_drop, List.length_take]; rfl)) ?_; (with_reducible refine (arrasref3_Meet.calls t463 t465 t467 t469 t482 t483 _ A30.out).mono ?_); rintro e w60 ⟨rfl, hb⟩; refine ⟨_, rfl, ?_⟩; have n0_ := Aside0.mk (below_step (by repeat (first | (with_reducible first | exact HB.out | apply below_alloc | apply pw_below_drewN | apply below_drew1) | exact HB.out)) hb); clear HB; have HB := n0_; clear n0_; (try clear hb); (try clear hb2); (try clear hk); (try clear hi)) | ((with_reducible refine gate_callee (f := 17) rfl ?_); refine goesL_ (some 101) rfl rfl Try.func17 (by kernel_rfl) rfl #[.int .i64 t472] rfl (by (try simp only [List.map_toArray, List.map_cons, List.map_nil]); first | done | rfl | (simp only [List.length_drop, List.length_take]; rfl)) ?_; (with_reducible refine (arraslaw3_num.calls t472 t484 _ A31.out).mono ?_); rintro e w' ⟨rfl, ⟨nd, rfl⟩⟩; refine ⟨_, rfl, ?_⟩) | (go_at_call 17; (with_reducible refine (arraslaw3_num.calls t475 t485 _ A33.out).mono ?_); rintro e w' ⟨rfl, ⟨nd, rfl⟩⟩))
                go_ret
                exact ⟨by first | rfl | (simp [errW_none, errW_some] <;> rfl) | (simp [*, errW_none, errW_some] <;> rfl), by repeat (first | (with_reducible first | exact HB.out | apply below_alloc | apply pw_below_drewN | apply below_drew1) | exact HB.out)⟩
              ·rw [if_neg c36] at H
               have c36b0 : (feq t471.1 t481.1 && feq t471.2 t481.2) = false := by simpa using c36
               clear c36
               obtain rfl := Option.some.inj H
               go_wp2_with (first | ((with_reducible refine gate_callee (f := 31) rfl ?_); refine goesL_ (some 89) rfl rfl Try.func31 (by kernel_rfl) rfl #[.complex .f64 t463.1 t463.2, .complex .f64 t465.1 t465.2, .complex .f64 t467.1 t467.2, .complex .f64 t469.1 t469.2] rfl (by (try simp only [List.map_toArray, List.map_cons, List.map_nil]); first | done | rfl | (simp only [List.length_drop, List.length_take]; rfl)) ?_; (with_reducible refine (arrasref3_Join.calls t463 t465 t467 t469 t480 t481 _ A29.out).mono ?_); rintro e w61 ⟨rfl, hb⟩; refine ⟨_, rfl, ?_⟩; have n0_ := Aside0.mk (below_step (by repeat (first | (with_reducible first | exact HB.out | apply below_alloc | apply pw_below_drewN | apply below_drew1) | exact HB.out)) hb); clear HB; have HB := n0_; clear n0_; (try clear hb); (try clear hb2); (try clear hk); (try clear hi)) | ((with_reducible refine gate_callee (f := 32) rfl ?_); refine goesL_ (some 97) rfl rfl Try.func32 (by kernel_rfl) rfl #[.complex .f64 t463.1 t463.2, .complex .f64 t465.1 t465.2, .complex .f64 t467.1 t467.2, .complex .f64 t469.1 t469.2] rfl (by (try simp only [List.map_toArray, List.map_cons, List.map_nil]); first | done | rfl | (simp only [List.length_drop, List.length_take]; rfl)) ?_; (with_reducible refine (arrasref3_Meet.calls t463 t465 t467 t469 t482 t483 _ A30.out).mono ?_); rintro e w62 ⟨rfl, hb⟩; refine ⟨_, rfl, ?_⟩; have n0_ := Aside0.mk (below_step (by repeat (first | (with_reducible first | exact HB.out | apply below_alloc | apply pw_below_drewN | apply below_drew1) | exact HB.out)) hb); clear HB; have HB := n0_; clear n0_; (try clear hb); (try clear hb2); (try clear hk); (try clear hi)) | ((with_reducible refine gate_callee (f := 17) rfl ?_); refine goesL_ (some 101) rfl rfl Try.func17 (by kernel_rfl) rfl #[.int .i64 t472] rfl (by (try simp only [List.map_toArray, List.map_cons, List.map_nil]); first | done | rfl | (simp only [List.length_drop, List.length_take]; rfl)) ?_; (with_reducible refine (arraslaw3_num.calls t472 t484 _ A31.out).mono ?_); rintro e w' ⟨rfl, ⟨nd, rfl⟩⟩; refine ⟨_, rfl, ?_⟩) | (go_at_call 17; (with_reducible refine (arraslaw3_num.calls t475 t485 _ A33.out).mono ?_); rintro e w' ⟨rfl, ⟨nd, rfl⟩⟩))
               go_ret
               exact ⟨by first | rfl | (simp [errW_none, errW_some] <;> rfl) | (simp [*, errW_none, errW_some] <;> rfl), by repeat (first | (with_reducible first | exact HB.out | apply below_alloc | apply pw_below_drewN | apply below_drew1) | exact HB.out)⟩
             ·rw [if_neg c35] at H
              have c35b0 : (feq t470.1 t480.1 && feq t470.2 t480.2) = false := by simpa using c35
              clear c35
              obtain rfl := Option.some.inj H
              go_wp2_with (first | ((with_reducible refine gate_callee (f := 31) rfl ?_); refine goesL_ (some 89) rfl rfl Try.func31 (by kernel_rfl) rfl #[.complex .f64 t463.1 t463.2, .complex .f64 t465.1 t465.2, .complex .f64 t467.1 t467.2, .complex .f64 t469.1 t469.2] rfl (by (try simp only [List.map_toArray, List.map_cons, List.map_nil]); first | done | rfl | (simp only [List.length_drop, List.length_take]; rfl)) ?_; (with_reducible refine (arrasref3_Join.calls t463 t465 t467 t469 t480 t481 _ A29.out).mono ?_); rintro e w63 ⟨rfl, hb⟩; refine ⟨_, rfl, ?_⟩; have n0_ := Aside0.mk (below_step (by repeat (first | (with_reducible first | exact HB.out | apply below_alloc | apply pw_below_drewN | apply below_drew1) | exact HB.out)) hb); clear HB; have HB := n0_; clear n0_; (try clear hb); (try clear hb2); (try clear hk); (try clear hi)) | ((with_reducible refine gate_callee (f := 32) rfl ?_); refine goesL_ (some 97) rfl rfl Try.func32 (by kernel_rfl) rfl #[.complex .f64 t463.1 t463.2, .complex .f64 t465.1 t465.2, .complex .f64 t467.1 t467.2, .complex .f64 t469.1 t469.2] rfl (by (try simp only [List.map_toArray, List.map_cons, List.map_nil]); first | done | rfl | (simp only [List.length_drop, List.length_take]; rfl)) ?_; (with_reducible refine (arrasref3_Meet.calls t463 t465 t467 t469 t482 t483 _ A30.out).mono ?_); rintro e w64 ⟨rfl, hb⟩; refine ⟨_, rfl, ?_⟩; have n0_ := Aside0.mk (below_step (by repeat (first | (with_reducible first | exact HB.out | apply below_alloc | apply pw_below_drewN | apply below_drew1) | exact HB.out)) hb); clear HB; have HB := n0_; clear n0_; (try clear hb); (try clear hb2); (try clear hk); (try clear hi)) | ((with_reducible refine gate_callee (f := 17) rfl ?_); refine goesL_ (some 101) rfl rfl Try.func17 (by kernel_rfl) rfl #[.int .i64 t472] rfl (by (try simp only [List.map_toArray, List.map_cons, List.map_nil]); first | done | rfl | (simp only [List.length_drop, List.length_take]; rfl)) ?_; (with_reducible refine (arraslaw3_num.calls t472 t484 _ A31.out).mono ?_); rintro e w' ⟨rfl, ⟨nd, rfl⟩⟩; refine ⟨_, rfl, ?_⟩) | (go_at_call 17; (with_reducible refine (arraslaw3_num.calls t475 t485 _ A33.out).mono ?_); rintro e w' ⟨rfl, ⟨nd, rfl⟩⟩))
              go_ret
              exact ⟨by first | rfl | (simp [errW_none, errW_some] <;> rfl) | (simp [*, errW_none, errW_some] <;> rfl), by repeat (first | (with_reducible first | exact HB.out | apply below_alloc | apply pw_below_drewN | apply below_drew1) | exact HB.out)⟩
            ·rw [if_neg c34] at H
             have c34b0 : (t485 == 0) = false := beq_eq_false_iff_ne.mpr c34
             have c34b1 : (t485 != 0) = true := bne_iff_ne.mpr c34
             obtain rfl := Option.some.inj H
             go_wp2_with (first | ((with_reducible refine gate_callee (f := 31) rfl ?_); refine goesL_ (some 89) rfl rfl Try.func31 (by kernel_rfl) rfl #[.complex .f64 t463.1 t463.2, .complex .f64 t465.1 t465.2, .complex .f64 t467.1 t467.2, .complex .f64 t469.1 t469.2] rfl (by (try simp only [List.map_toArray, List.map_cons, List.map_nil]); first | done | rfl | (simp only [List.length_drop, List.length_take]; rfl)) ?_; (with_reducible refine (arrasref3_Join.calls t463 t465 t467 t469 t480 t481 _ A29.out).mono ?_); rintro e w65 ⟨rfl, hb⟩; refine ⟨_, rfl, ?_⟩; have n0_ := Aside0.mk (below_step (by repeat (first | (with_reducible first | exact HB.out | apply below_alloc | apply pw_below_drewN | apply below_drew1) | exact HB.out)) hb); clear HB; have HB := n0_; clear n0_; (try clear hb); (try clear hb2); (try clear hk); (try clear hi)) | ((with_reducible refine gate_callee (f := 32) rfl ?_); refine goesL_ (some 97) rfl rfl Try.func32 (by kernel_rfl) rfl #[.complex .f64 t463.1 t463.2, .complex .f64 t465.1 t465.2, .complex .f64 t467.1 t467.2, .complex .f64 t469.1 t469.2] rfl (by (try simp only [List.map_toArray, List.map_cons, List.map_nil]); first | done | rfl | (simp only [List.length_drop, List.length_take]; rfl)) ?_; (with_reducible refine (arrasref3_Meet.calls t463 t465 t467 t469 t482 t483 _ A30.out).mono ?_); rintro e w66 ⟨rfl, hb⟩; refine ⟨_, rfl, ?_⟩; have n0_ := Aside0.mk (below_step (by repeat (first | (with_reducible first | exact HB.out | apply below_alloc | apply pw_below_drewN | apply below_drew1) | exact HB.out)) hb); clear HB; have HB := n0_; clear n0_; (try clear hb); (try clear hb2); (try clear hk); (try clear hi)) | ((with_reducible refine gate_callee (f := 17) rfl ?_); refine goesL_ (some 101) rfl rfl Try.func17 (by kernel_rfl) rfl #[.int .i64 t472] rfl (by (try simp only [List.map_toArray, List.map_cons, List.map_nil]); first | done | rfl | (simp only [List.length_drop, List.length_take]; rfl)) ?_; (with_reducible refine (arraslaw3_num.calls t472 t484 _ A31.out).mono ?_); rintro e w' ⟨rfl, ⟨nd, rfl⟩⟩; refine ⟨_, rfl, ?_⟩) | (go_at_call 17; (with_reducible refine (arraslaw3_num.calls t475 t485 _ A33.out).mono ?_); rintro e w' ⟨rfl, ⟨nd, rfl⟩⟩))
             go_ret
             exact ⟨by first | rfl | (simp [errW_none, errW_some] <;> rfl) | (simp [*, errW_none, errW_some] <;> rfl), by repeat (first | (with_reducible first | exact HB.out | apply below_alloc | apply pw_below_drewN | apply below_drew1) | exact HB.out)⟩
           ·rw [if_neg c32] at H
            have c32b0 : (t484 == 0) = false := beq_eq_false_iff_ne.mpr c32
            have c32b1 : (t484 != 0) = true := bne_iff_ne.mpr c32
            obtain rfl := Option.some.inj H
            go_wp2_with (first | ((with_reducible refine gate_callee (f := 31) rfl ?_); refine goesL_ (some 89) rfl rfl Try.func31 (by kernel_rfl) rfl #[.complex .f64 t463.1 t463.2, .complex .f64 t465.1 t465.2, .complex .f64 t467.1 t467.2, .complex .f64 t469.1 t469.2] rfl (by (try simp only [List.map_toArray, List.map_cons, List.map_nil]); first | done | rfl | (simp only [List.length_drop, List.length_take]; rfl)) ?_; (with_reducible refine (arrasref3_Join.calls t463 t465 t467 t469 t480 t481 _ A29.out).mono ?_); rintro e w67 ⟨rfl, hb⟩; refine ⟨_, rfl, ?_⟩; have n0_ := Aside0.mk (below_step (by repeat (first | (with_reducible first | exact HB.out | apply below_alloc | apply pw_below_drewN | apply below_drew1) | exact HB.out)) hb); clear HB; have HB := n0_; clear n0_; (try clear hb); (try clear hb2); (try clear hk); (try clear hi)) | ((with_reducible refine gate_callee (f := 32) rfl ?_); refine goesL_ (some 97) rfl rfl Try.func32 (by kernel_rfl) rfl #[.complex .f64 t463.1 t463.2, .complex .f64 t465.1 t465.2, .complex .f64 t467.1 t467.2, .complex .f64 t469.1 t469.2] rfl (by (try simp only [List.map_toArray, List.map_cons, List.map_nil]); first | done | rfl | (simp only [List.length_drop, List.length_take]; rfl)) ?_; (with_reducible refine (arrasref3_Meet.calls t463 t465 t467 t469 t482 t483 _ A30.out).mono ?_); rintro e w68 ⟨rfl, hb⟩; refine ⟨_, rfl, ?_⟩; have n0_ := Aside0.mk (below_step (by repeat (first | (with_reducible first | exact HB.out | apply below_alloc | apply pw_below_drewN | apply below_drew1) | exact HB.out)) hb); clear HB; have HB := n0_; clear n0_; (try clear hb); (try clear hb2); (try clear hk); (try clear hi)) | ((with_reducible refine gate_callee (f := 17) rfl ?_); refine goesL_ (some 101) rfl rfl Try.func17 (by kernel_rfl) rfl #[.int .i64 t472] rfl (by (try simp only [List.map_toArray, List.map_cons, List.map_nil]); first | done | rfl | (simp only [List.length_drop, List.length_take]; rfl)) ?_; (with_reducible refine (arraslaw3_num.calls t472 t484 _ A31.out).mono ?_); rintro e w' ⟨rfl, ⟨nd, rfl⟩⟩; refine ⟨_, rfl, ?_⟩))
            go_ret
            exact ⟨by first | rfl | (simp [errW_none, errW_some] <;> rfl) | (simp [*, errW_none, errW_some] <;> rfl), by repeat (first | (with_reducible first | exact HB.out | apply below_alloc | apply pw_below_drewN | apply below_drew1) | exact HB.out)⟩
       ·rw [if_neg c6] at H
        exact absurd H (by simp)
      ·rw [if_neg c5] at H
       exact absurd H (by simp)
     ·replace c4 := Bool.eq_false_iff.mpr c4
      subst c4
      have H1 : ((arraslaw3_wakes.f kj1).bind fun t461 => (some t461)) = some r := by rw [if_neg (show ¬ (false = true) by decide)] at H; exact H
      clear H; have H := H1; clear H1
      replace H := Option.bind_eq_some_iff.mp H
      obtain ⟨t461, A690, H⟩ := H
      replace H : (some t461) = some r := H
      have A69 := Aside0.mk A690; clear A690
      obtain rfl := Option.some.inj H
      go_wp2_with (first | ((with_reducible refine gate_callee (f := 20) rfl ?_); refine goesL_ (some 148) rfl rfl Try.func20 (by kernel_rfl) rfl #[] rfl (by (try simp only [List.map_toArray, List.map_cons, List.map_nil]); first | done | rfl | (simp only [List.length_drop, List.length_take]; rfl)) ?_; (with_reducible refine (arraslaw3_wakes.calls kj1  t461 _ A69.out).mono ?_); rintro e w70 ⟨rfl, hb⟩; refine ⟨_, rfl, ?_⟩; have n0_ := Aside0.mk (below_step (by repeat (first | (with_reducible first | exact HB.out | apply below_alloc | apply pw_below_drewN | apply below_drew1) | exact HB.out)) hb); clear HB; have HB := n0_; clear n0_; (try clear hb); (try clear hb2); (try clear hk); (try clear hi)))
      go_ret
      exact ⟨by first | rfl | (simp [errW_none, errW_some] <;> rfl) | (simp [*, errW_none, errW_some] <;> rfl), by repeat (first | (with_reducible first | exact HB.out | apply below_alloc | apply pw_below_drewN | apply below_drew1) | exact HB.out)⟩

end Go.Proofs.Ytdpeeinmckohgaa.PC
