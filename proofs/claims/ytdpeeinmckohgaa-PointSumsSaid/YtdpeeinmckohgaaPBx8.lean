-- Written by wprint.py, a program of this session's, over the kit's print.
import Derived.Test.YtdpeeinmckohgaaPBx0
import Derived.Test.YtdpeeinmckohgaaPBx1
import Derived.Test.YtdpeeinmckohgaaPBx2
import Derived.Test.YtdpeeinmckohgaaPBx3
import Derived.Test.YtdpeeinmckohgaaPBx4
import Derived.Test.YtdpeeinmckohgaaPBx7
namespace Go.Proofs.Ytdpeeinmckohgaa.PB
open Go.RowKit Go.Proofs.YtdpeeinmckohgaaW.PrintWords Go.Proofs.YtdpeeinmckohgaaW.PrintLast Go.Proofs.YtdpeeinmckohgaaW.PrintMore
attribute [local go_sem] max2_int min2_int max_two min_two max_three min_three max_four min_four fl_eql fl_neq fl_lss fl_leq fl_gtr fl_geq fl_add fl_of fl_int cx_mk cx_real cx_imag cx_eql cx_neq cx_add   -- for this text's walks alone
set_option linter.unusedVariables false
set_option linter.unusedSimpArgs false

/-! ### arraslaw3_PointSums: function 6 -/
mutual
def arraslaw3_PointSums.l0 : Nat → List (S26) → Int → Option (Bool)
  | 0, _, _ => none
  | k + 1, x0, x3 => if x3 < (x0.length : Int) then (arraslaw3_PointSums.j1 k x0 x3 (decide (x3 < 12))) else (arraslaw3_PointSums.j1 k x0 x3 false)
def arraslaw3_PointSums.j1 : Nat → List (S26) → Int → Bool → Option (Bool)
  | 0, _, _, _ => none
  | k + 1, x0, x3, x21 => if x21 = true then (arraslaw3_PointSums.l1 k x0 x3 0) else ((arraslaw3_wakes.f k).bind fun t358 => (some t358))
def arraslaw3_PointSums.l1 : Nat → List (S26) → Int → Int → Option (Bool)
  | 0, _, _, _ => none
  | k + 1, x0, x3, x4 => if x4 < 4 then (if 0 ≤ x3 then (if x3 < (x0.length : Int) then ((arraslaw3_Ask_c.f ((rd_T26 x0 x3).f0) ((rd_T26 x0 x3).f1) ((rd_T26 x0 x3).f2.f0) ((rd_T26 x0 x3).f2.f1) ((rd_T26 x0 x3).f2.f2) ((rd_T26 x0 x3).f2.f3) ((rd_T26 x0 x3).f2.f4) ((rd_T26 x0 x3).f2.f5) ((rd_T26 x0 x3).f2.f6) ((rd_T26 x0 x3).f2.f7) x4).bind fun t360 => ((arraslaw3_Ask_c.f ((rd_T26 x0 x3).f0) ((rd_T26 x0 x3).f1) ((rd_T26 x0 x3).f2.f0) ((rd_T26 x0 x3).f2.f1) ((rd_T26 x0 x3).f2.f2) ((rd_T26 x0 x3).f2.f3) ((rd_T26 x0 x3).f2.f4) ((rd_T26 x0 x3).f2.f5) ((rd_T26 x0 x3).f2.f6) ((rd_T26 x0 x3).f2.f7) (Int.tmod (wrap64 (x4 + 1)) 4)).bind fun t362 => ((arrasref3_Point.f t360).bind fun t363 => (if t363 = true then ((arrasref3_Point.f t362).bind fun t364 => (arraslaw3_PointSums.j3 k x0 x3 x4 t360 t362 t364)) else (arraslaw3_PointSums.j3 k x0 x3 x4 t360 t362 false))))) else (none)) else (none)) else (arraslaw3_PointSums.l0 k x0 (wrap64 (x3 + 1)))
def arraslaw3_PointSums.j3 : Nat → List (S26) → Int → Int → C128 → C128 → Bool → Option (Bool)
  | 0, _, _, _, _, _, _ => none
  | k + 1, x0, x3, x4, x5, x6, x7 => (point_Add.f k x5 x6).bind fun bt365 => ((point_Sub.f k x5 x6).bind fun bt367 => (if x7 = true then ((arrasref3_Add.f x5 x6).bind fun t369 => ((arrasref3_Sub.f x5 x6).bind fun t370 => (arraslaw3_PointSums.j4 k x0 x3 x4 x7 bt365.1 bt365.2 bt367.1 bt367.2 t369 t370))) else (arraslaw3_PointSums.j4 k x0 x3 x4 x7 bt365.1 bt365.2 bt367.1 bt367.2 ((0, 0) : C128) ((0, 0) : C128))))
def arraslaw3_PointSums.j4 : Nat → List (S26) → Int → Int → Bool → C128 → Int → C128 → Int → C128 → C128 → Option (Bool)
  | 0, _, _, _, _, _, _, _, _, _, _ => none
  | k + 1, x0, x3, x4, x7, x8, x9, x10, x11, x12, x13 => (arraslaw3_told.f x8 x9 x7 x12).bind fun t371 => (if t371 = true then ((arraslaw3_told.f x10 x11 x7 x13).bind fun t372 => (if t372 = true then (arraslaw3_PointSums.l1 k x0 x3 (wrap64 (x4 + 1))) else (some false))) else (some false))
end
def arraslaw3_PointSums.f (k : Nat) (l0 : List (S26)) : Option (Bool) := arraslaw3_PointSums.l0 k l0 0
theorem arraslaw3_PointSums.mono_l : ∀ k, (∀ y0 y1, LeO (arraslaw3_PointSums.l0 k y0 y1) (arraslaw3_PointSums.l0 (k + 1) y0 y1)) ∧ (∀ y0 y1 y2, LeO (arraslaw3_PointSums.j1 k y0 y1 y2) (arraslaw3_PointSums.j1 (k + 1) y0 y1 y2)) ∧ (∀ y0 y1 y2, LeO (arraslaw3_PointSums.l1 k y0 y1 y2) (arraslaw3_PointSums.l1 (k + 1) y0 y1 y2)) ∧ (∀ y0 y1 y2 y3 y4 y5, LeO (arraslaw3_PointSums.j3 k y0 y1 y2 y3 y4 y5) (arraslaw3_PointSums.j3 (k + 1) y0 y1 y2 y3 y4 y5)) ∧ (∀ y0 y1 y2 y3 y4 y5 y6 y7 y8 y9, LeO (arraslaw3_PointSums.j4 k y0 y1 y2 y3 y4 y5 y6 y7 y8 y9) (arraslaw3_PointSums.j4 (k + 1) y0 y1 y2 y3 y4 y5 y6 y7 y8 y9))
  | 0 => ⟨fun _ _ r h => by simp [arraslaw3_PointSums.l0] at h, fun _ _ _ r h => by simp [arraslaw3_PointSums.j1] at h, fun _ _ _ r h => by simp [arraslaw3_PointSums.l1] at h, fun _ _ _ _ _ _ r h => by simp [arraslaw3_PointSums.j3] at h, fun _ _ _ _ _ _ _ _ _ _ r h => by simp [arraslaw3_PointSums.j4] at h⟩
  | k + 1 => by
    obtain ⟨ih0, ih1, ih2, ih3, ih4⟩ := arraslaw3_PointSums.mono_l k
    refine ⟨?_, ?_, ?_, ?_, ?_⟩
    · intro y0 y1
      unfold arraslaw3_PointSums.l0
      repeat' first
      | (with_reducible exact ih0 _ _)
      | (with_reducible exact ih1 _ _ _)
      | (with_reducible exact ih2 _ _ _)
      | (with_reducible exact ih3 _ _ _ _ _ _)
      | (with_reducible exact ih4 _ _ _ _ _ _ _ _ _ _)
      | (with_reducible exact arraslaw3_wakes.mono _)
      | (with_reducible exact point_Add.mono _ _ _)
      | (with_reducible exact point_Sub.mono _ _ _)
      | (with_reducible exact LeO.refl _)
      | (with_reducible exact LeO.none _)
      | (with_reducible refine LeO.ite ?_ ?_)
      | (with_reducible refine LeO.bind ?_ (fun _ => ?_))
      | exact ih0 _ _
      | exact ih1 _ _ _
      | exact ih2 _ _ _
      | exact ih3 _ _ _ _ _ _
      | exact ih4 _ _ _ _ _ _ _ _ _ _
      | exact arraslaw3_wakes.mono _
      | exact point_Add.mono _ _ _
      | exact point_Sub.mono _ _ _
      | exact LeO.none _
      | refine LeO.ite ?_ ?_
      | refine LeO.bind ?_ (fun _ => ?_)
    · intro y0 y1 y2
      unfold arraslaw3_PointSums.j1
      repeat' first
      | (with_reducible exact ih0 _ _)
      | (with_reducible exact ih1 _ _ _)
      | (with_reducible exact ih2 _ _ _)
      | (with_reducible exact ih3 _ _ _ _ _ _)
      | (with_reducible exact ih4 _ _ _ _ _ _ _ _ _ _)
      | (with_reducible exact arraslaw3_wakes.mono _)
      | (with_reducible exact point_Add.mono _ _ _)
      | (with_reducible exact point_Sub.mono _ _ _)
      | (with_reducible exact LeO.refl _)
      | (with_reducible exact LeO.none _)
      | (with_reducible refine LeO.ite ?_ ?_)
      | (with_reducible refine LeO.bind ?_ (fun _ => ?_))
      | exact ih0 _ _
      | exact ih1 _ _ _
      | exact ih2 _ _ _
      | exact ih3 _ _ _ _ _ _
      | exact ih4 _ _ _ _ _ _ _ _ _ _
      | exact arraslaw3_wakes.mono _
      | exact point_Add.mono _ _ _
      | exact point_Sub.mono _ _ _
      | exact LeO.none _
      | refine LeO.ite ?_ ?_
      | refine LeO.bind ?_ (fun _ => ?_)
    · intro y0 y1 y2
      unfold arraslaw3_PointSums.l1
      repeat' first
      | (with_reducible exact ih0 _ _)
      | (with_reducible exact ih1 _ _ _)
      | (with_reducible exact ih2 _ _ _)
      | (with_reducible exact ih3 _ _ _ _ _ _)
      | (with_reducible exact ih4 _ _ _ _ _ _ _ _ _ _)
      | (with_reducible exact arraslaw3_wakes.mono _)
      | (with_reducible exact point_Add.mono _ _ _)
      | (with_reducible exact point_Sub.mono _ _ _)
      | (with_reducible exact LeO.refl _)
      | (with_reducible exact LeO.none _)
      | (with_reducible refine LeO.ite ?_ ?_)
      | (with_reducible refine LeO.bind ?_ (fun _ => ?_))
      | exact ih0 _ _
      | exact ih1 _ _ _
      | exact ih2 _ _ _
      | exact ih3 _ _ _ _ _ _
      | exact ih4 _ _ _ _ _ _ _ _ _ _
      | exact arraslaw3_wakes.mono _
      | exact point_Add.mono _ _ _
      | exact point_Sub.mono _ _ _
      | exact LeO.none _
      | refine LeO.ite ?_ ?_
      | refine LeO.bind ?_ (fun _ => ?_)
    · intro y0 y1 y2 y3 y4 y5
      unfold arraslaw3_PointSums.j3
      repeat' first
      | (with_reducible exact ih0 _ _)
      | (with_reducible exact ih1 _ _ _)
      | (with_reducible exact ih2 _ _ _)
      | (with_reducible exact ih3 _ _ _ _ _ _)
      | (with_reducible exact ih4 _ _ _ _ _ _ _ _ _ _)
      | (with_reducible exact arraslaw3_wakes.mono _)
      | (with_reducible exact point_Add.mono _ _ _)
      | (with_reducible exact point_Sub.mono _ _ _)
      | (with_reducible exact LeO.refl _)
      | (with_reducible exact LeO.none _)
      | (with_reducible refine LeO.ite ?_ ?_)
      | (with_reducible refine LeO.bind ?_ (fun _ => ?_))
      | exact ih0 _ _
      | exact ih1 _ _ _
      | exact ih2 _ _ _
      | exact ih3 _ _ _ _ _ _
      | exact ih4 _ _ _ _ _ _ _ _ _ _
      | exact arraslaw3_wakes.mono _
      | exact point_Add.mono _ _ _
      | exact point_Sub.mono _ _ _
      | exact LeO.none _
      | refine LeO.ite ?_ ?_
      | refine LeO.bind ?_ (fun _ => ?_)
    · intro y0 y1 y2 y3 y4 y5 y6 y7 y8 y9
      unfold arraslaw3_PointSums.j4
      repeat' first
      | (with_reducible exact ih0 _ _)
      | (with_reducible exact ih1 _ _ _)
      | (with_reducible exact ih2 _ _ _)
      | (with_reducible exact ih3 _ _ _ _ _ _)
      | (with_reducible exact ih4 _ _ _ _ _ _ _ _ _ _)
      | (with_reducible exact arraslaw3_wakes.mono _)
      | (with_reducible exact point_Add.mono _ _ _)
      | (with_reducible exact point_Sub.mono _ _ _)
      | (with_reducible exact LeO.refl _)
      | (with_reducible exact LeO.none _)
      | (with_reducible refine LeO.ite ?_ ?_)
      | (with_reducible refine LeO.bind ?_ (fun _ => ?_))
      | exact ih0 _ _
      | exact ih1 _ _ _
      | exact ih2 _ _ _
      | exact ih3 _ _ _ _ _ _
      | exact ih4 _ _ _ _ _ _ _ _ _ _
      | exact arraslaw3_wakes.mono _
      | exact point_Add.mono _ _ _
      | exact point_Sub.mono _ _ _
      | exact LeO.none _
      | refine LeO.ite ?_ ?_
      | refine LeO.bind ?_ (fun _ => ?_)
theorem arraslaw3_PointSums.mono : ∀ a0 k, LeO (arraslaw3_PointSums.f k a0) (arraslaw3_PointSums.f (k + 1) a0) := by
  intro a0 k
  obtain ⟨ih0, ih1, ih2, ih3, ih4⟩ := arraslaw3_PointSums.mono_l k
  unfold arraslaw3_PointSums.f
  repeat' first
      | (with_reducible exact ih0 _ _)
      | (with_reducible exact ih1 _ _ _)
      | (with_reducible exact ih2 _ _ _)
      | (with_reducible exact ih3 _ _ _ _ _ _)
      | (with_reducible exact ih4 _ _ _ _ _ _ _ _ _ _)
      | (with_reducible exact arraslaw3_wakes.mono _)
      | (with_reducible exact point_Add.mono _ _ _)
      | (with_reducible exact point_Sub.mono _ _ _)
      | (with_reducible exact LeO.refl _)
      | (with_reducible exact LeO.none _)
      | (with_reducible refine LeO.ite ?_ ?_)
      | (with_reducible refine LeO.bind ?_ (fun _ => ?_))
      | exact ih0 _ _
      | exact ih1 _ _ _
      | exact ih2 _ _ _
      | exact ih3 _ _ _ _ _ _
      | exact ih4 _ _ _ _ _ _ _ _ _ _
      | exact arraslaw3_wakes.mono _
      | exact point_Add.mono _ _ _
      | exact point_Sub.mono _ _ _
      | exact LeO.none _
      | refine LeO.ite ?_ ?_
      | refine LeO.bind ?_ (fun _ => ?_)
def arraslaw3_PointSums.T7 : Bool × List (List Nat × List Nat) := (true, [([], []), ([], []), ([0, 1], [0, 1]), ([2], [2]), ([], []), ([3, 4], [3, 4]), ([], []), ([], []), ([6, 7], [6, 7]), ([8], [8]), ([], []), ([10], [10]), ([11], [11]), ([9, 12, 5], [9, 12]), ([5, 13, 0, 1, 2, 3, 4, 5], [5]), ([13, 14, 0, 1, 2, 3, 4, 5, 6, 7, 8, 9, 10, 11, 12, 13, 14], [13])])
def arraslaw3_PointSums.B7 : List Nat := [0, 0, 3, 7, 0, 31, 0, 0, 192, 448, 0, 1024, 3072, 8191, 16383, 32767]
theorem arraslaw3_PointSums.tab7 : rtab .any (opsOf Try.f6 7) = arraslaw3_PointSums.T7 := by kernel_rfl
theorem arraslaw3_PointSums.bits7 : waitsOk arraslaw3_PointSums.T7.2 arraslaw3_PointSums.B7 = true := by kernel_rfl
set_option maxHeartbeats 8000000 in
set_option maxRecDepth 100000 in
theorem arraslaw3_PointSums.calls (k : Nat) (A0 : Option Addr) (c0 : Nat) (l0 : List (S26)) (r : Bool) (w : World) (hr0 : Kd.C k26 w A0 l0.length l0) (hc0 : l0.length ≤ c0) (h : arraslaw3_PointSums.f k l0 = some r) :
    Calls Try.prog 6 #[.slice A0 l0.length c0] w fun e w' => e = .returned (.bool r) ∧ Below w.heap.size w w' := by
  have hu26 := Try.underlying26
  have HR0 := Aside0.mk hr0
  have HC0 := Aside0.mk hc0
  clear hr0 hc0
  have HB := Aside0.mk (Below.refl w.heap.size w)
  have H : (arraslaw3_PointSums.l0 k l0 0) = some r := h
  clear h
  have H' := Aside0.mk H
  clear H
  go_enter Try.func6, Try.ntmps6
  go_wp2
  go_loopg [3] k (fun kq v3 w' => ∃ (x3_1 : Int), v3 = .int .i64 x3_1 ∧ Aside0 (arraslaw3_PointSums.l0 kq l0 x3_1 = some r) ∧ Aside0 (kq ≤ k) ∧ Aside0 (Below w.heap.size w w'))
  case atStart => exact ⟨(0), (by first | rfl | (simp; done) | (simp [*]; done)), H', ⟨Nat.le_refl _⟩, ⟨by repeat (first | (with_reducible first | exact HB.out | apply below_alloc | apply pw_below_drewN | apply below_drew1) | exact HB.out)⟩⟩
  case round =>
    clear H'
    obtain ⟨x3_1, rfl, HA, HK1, HB⟩ := hrel
    cases gk with
    | zero => exact absurd HA.out (by simp [arraslaw3_PointSums.l0])
    | succ k1 =>
      have H := HA.out
      clear HA
      simp only [arraslaw3_PointSums.l0] at H
      have HC2 := Aside0.mk H
      clear H
      go_upto_region 2 with (fail)
      go_cut [21] (fun v21 wc => ∃ (kq : Nat) (x21_1 : Bool), v21 = .bool x21_1 ∧ Aside0 (arraslaw3_PointSums.j1 kq l0 x3_1 x21_1 = some r) ∧ Aside0 (kq ≤ k1) ∧ Aside0 (Below w.heap.size w wc))
      case first =>
        have H := HC2.out
        clear HC2
        by_cases c3 : x3_1 < (l0.length : Int)
        · rw [if_pos c3] at H
          have c3b0 : decide (x3_1 < (l0.length : Int)) = true := decide_eq_true c3
          clear c3
          (first | rw [c3b0] | (simp only [i64_w, i32_w]; rw [c3b0]) | skip)
          have H' := Aside0.mk H
          clear H
          go_wp2
          go_meet
          case rel => exact ⟨_, (decide (x3_1 < 12)), (by first | rfl | (simp; done) | (simp [*]; done)), H', ⟨by have := HK1.out; first | omega | exact Nat.le_refl _⟩, ⟨by repeat (first | (with_reducible first | exact HB.out | apply below_alloc | apply pw_below_drewN | apply below_drew1) | exact HB.out)⟩⟩
        · rw [if_neg c3] at H
          have c3b0 : decide (x3_1 < (l0.length : Int)) = false := decide_eq_false c3
          clear c3
          (first | rw [c3b0] | (simp only [i64_w, i32_w]; rw [c3b0]) | skip)
          have H' := Aside0.mk H
          clear H
          go_wp2
          go_meet
          case rel => exact ⟨_, (false), (by first | rfl | (simp; done) | (simp [*]; done)), H', ⟨by have := HK1.out; first | omega | exact Nat.le_refl _⟩, ⟨by repeat (first | (with_reducible first | exact HB.out | apply below_alloc | apply pw_below_drewN | apply below_drew1) | exact HB.out)⟩⟩
      case rest =>
        clear HC2
        try clear p2
        try clear c3
        try clear c3b0
        obtain ⟨kq, x21_1, rfl, HA, HJ1, HB⟩ := hcut
        cases kq with
        | zero => exact absurd HA.out (by simp [arraslaw3_PointSums.j1])
        | succ kj1 =>
          have H := HA.out
          clear HA
          simp only [arraslaw3_PointSums.j1] at H
          by_cases c4 : x21_1 = true
          · subst c4
            have H1 : (arraslaw3_PointSums.l1 kj1 l0 x3_1 0) = some r := by rw [if_pos rfl] at H; exact H
            clear H
            have H := H1
            clear H1
            have H' := Aside0.mk H
            clear H
            go_wp2
            go_loopg [4] kj1 (fun kq v4 w' => ∃ (x4_3 : Int), v4 = .int .i64 x4_3 ∧ Aside0 (arraslaw3_PointSums.l1 kq l0 x3_1 x4_3 = some r) ∧ Aside0 (kq ≤ kj1) ∧ Aside0 (Below w.heap.size w w'))
            case atStart => exact ⟨(0), (by first | rfl | (simp; done) | (simp [*]; done)), H', ⟨Nat.le_refl _⟩, ⟨by repeat (first | (with_reducible first | exact HB.out | apply below_alloc | apply pw_below_drewN | apply below_drew1) | exact HB.out)⟩⟩
            case round =>
              clear H'
              try clear p2
              try clear c3
              try clear c3b0
              try clear c4
              try clear p2
              obtain ⟨x4_3, rfl, HA, HK3, HB⟩ := hrel
              cases gk with
              | zero => exact absurd HA.out (by simp [arraslaw3_PointSums.l1])
              | succ k3 =>
                have H := HA.out
                clear HA
                simp only [arraslaw3_PointSums.l1] at H
                by_cases c5 : x4_3 < 4
                · rw [if_pos c5] at H
                  have c5b0 : decide (x4_3 < 4) = true := decide_eq_true c5
                  clear c5
                  by_cases c6 : 0 ≤ x3_1
                  · rw [if_pos c6] at H
                    have c6b0 : decide (0 ≤ x3_1) = true := decide_eq_true c6
                    clear c6
                    by_cases c7 : x3_1 < (l0.length : Int)
                    · rw [if_pos c7] at H
                      have c7b0 : decide (x3_1 < (l0.length : Int)) = true := decide_eq_true c7
                      clear c7
                      replace H := Option.bind_eq_some_iff.mp H
                      obtain ⟨t360, A80, H⟩ := H
                      replace H : ((arraslaw3_Ask_c.f ((rd_T26 l0 x3_1).f0) ((rd_T26 l0 x3_1).f1) ((rd_T26 l0 x3_1).f2.f0) ((rd_T26 l0 x3_1).f2.f1) ((rd_T26 l0 x3_1).f2.f2) ((rd_T26 l0 x3_1).f2.f3) ((rd_T26 l0 x3_1).f2.f4) ((rd_T26 l0 x3_1).f2.f5) ((rd_T26 l0 x3_1).f2.f6) ((rd_T26 l0 x3_1).f2.f7) (Int.tmod (wrap64 (x4_3 + 1)) 4)).bind fun t362 => ((arrasref3_Point.f t360).bind fun t363 => (if t363 = true then ((arrasref3_Point.f t362).bind fun t364 => (arraslaw3_PointSums.j3 k3 l0 x3_1 x4_3 t360 t362 t364)) else (arraslaw3_PointSums.j3 k3 l0 x3_1 x4_3 t360 t362 false)))) = some r := H
                      have A8 := Aside0.mk A80
                      clear A80
                      replace H := Option.bind_eq_some_iff.mp H
                      obtain ⟨t362, A90, H⟩ := H
                      replace H : ((arrasref3_Point.f t360).bind fun t363 => (if t363 = true then ((arrasref3_Point.f t362).bind fun t364 => (arraslaw3_PointSums.j3 k3 l0 x3_1 x4_3 t360 t362 t364)) else (arraslaw3_PointSums.j3 k3 l0 x3_1 x4_3 t360 t362 false))) = some r := H
                      have A9 := Aside0.mk A90
                      clear A90
                      have HC10 := Aside0.mk H
                      clear H
                      try go_wp2
                      have n0_ := Aside0.mk (below_drew1 HB.out)
                      clear HB
                      have HB := n0_
                      clear n0_
                      have p359 : 0 ≤ (x3_1 : Int) := of_decide_eq_true (by first | (with_reducible assumption) | assumption)
                      have q359 : x3_1 < (l0.length : Int) := of_decide_eq_true (by first | (with_reducible assumption) | assumption)
                      obtain ⟨ad359, e359, hx359_0, hx359_1, hx359_2, hx359_3, hx359_4, hx359_5, hx359_6, hx359_7, hx359_8, hx359_9⟩ := at_T26 HR0.out x3_1 p359 q359
                      have hw359_9 := hx359_9
                      have hw359_8 := hx359_8
                      have hw359_7 := hx359_7
                      have hw359_6 := hx359_6
                      have hw359_5 := hx359_5
                      have hw359_4 := hx359_4
                      have hw359_3 := hx359_3
                      have hw359_2 := hx359_2
                      have hw359_1 := hx359_1
                      have hw359_0 := hx359_0
                      cases e359
                      replace hx359_0 := (HB.out.cell (World.block_lt_of_cell? w _ hx359_0)).trans hx359_0
                      replace hx359_1 := (HB.out.cell (World.block_lt_of_cell? w _ hx359_1)).trans hx359_1
                      replace hx359_2 := (HB.out.cell (World.block_lt_of_cell? w _ hx359_2)).trans hx359_2
                      replace hx359_3 := (HB.out.cell (World.block_lt_of_cell? w _ hx359_3)).trans hx359_3
                      replace hx359_4 := (HB.out.cell (World.block_lt_of_cell? w _ hx359_4)).trans hx359_4
                      replace hx359_5 := (HB.out.cell (World.block_lt_of_cell? w _ hx359_5)).trans hx359_5
                      replace hx359_6 := (HB.out.cell (World.block_lt_of_cell? w _ hx359_6)).trans hx359_6
                      replace hx359_7 := (HB.out.cell (World.block_lt_of_cell? w _ hx359_7)).trans hx359_7
                      replace hx359_8 := (HB.out.cell (World.block_lt_of_cell? w _ hx359_8)).trans hx359_8
                      replace hx359_9 := (HB.out.cell (World.block_lt_of_cell? w _ hx359_9)).trans hx359_9
                      replace p359 := eq_true p359
                      replace q359 := eq_true q359
                      have p361 : 0 ≤ (x3_1 : Int) := of_decide_eq_true (by first | (with_reducible assumption) | assumption)
                      have q361 : x3_1 < (l0.length : Int) := of_decide_eq_true (by first | (with_reducible assumption) | assumption)
                      obtain ⟨ad361, e361, hx361_0, hx361_1, hx361_2, hx361_3, hx361_4, hx361_5, hx361_6, hx361_7, hx361_8, hx361_9⟩ := at_T26 HR0.out x3_1 p361 q361
                      have hw361_9 := hx361_9
                      have hw361_8 := hx361_8
                      have hw361_7 := hx361_7
                      have hw361_6 := hx361_6
                      have hw361_5 := hx361_5
                      have hw361_4 := hx361_4
                      have hw361_3 := hx361_3
                      have hw361_2 := hx361_2
                      have hw361_1 := hx361_1
                      have hw361_0 := hx361_0
                      obtain rfl : ad359 = ad361 := (by injection e361)
                      replace hx361_0 := (HB.out.cell (World.block_lt_of_cell? w _ hx361_0)).trans hx361_0
                      replace hx361_1 := (HB.out.cell (World.block_lt_of_cell? w _ hx361_1)).trans hx361_1
                      replace hx361_2 := (HB.out.cell (World.block_lt_of_cell? w _ hx361_2)).trans hx361_2
                      replace hx361_3 := (HB.out.cell (World.block_lt_of_cell? w _ hx361_3)).trans hx361_3
                      replace hx361_4 := (HB.out.cell (World.block_lt_of_cell? w _ hx361_4)).trans hx361_4
                      replace hx361_5 := (HB.out.cell (World.block_lt_of_cell? w _ hx361_5)).trans hx361_5
                      replace hx361_6 := (HB.out.cell (World.block_lt_of_cell? w _ hx361_6)).trans hx361_6
                      replace hx361_7 := (HB.out.cell (World.block_lt_of_cell? w _ hx361_7)).trans hx361_7
                      replace hx361_8 := (HB.out.cell (World.block_lt_of_cell? w _ hx361_8)).trans hx361_8
                      replace hx361_9 := (HB.out.cell (World.block_lt_of_cell? w _ hx361_9)).trans hx361_9
                      replace p361 := eq_true p361
                      replace q361 := eq_true q361
                      refine start_ (n := 16) (S := fun w' => w'.cell? (ad359.add ((x3_1).toNat * 10)) = some (.int .i64 ((rd_T26 l0 x3_1).f0)) ∧ w'.cell? ⟨(ad359.add ((x3_1).toNat * 10)).block, (ad359.add ((x3_1).toNat * 10)).off + 1, none⟩ = some (.int .i64 ((rd_T26 l0 x3_1).f1)) ∧ w'.cell? ⟨(ad359.add ((x3_1).toNat * 10)).block, (ad359.add ((x3_1).toNat * 10)).off + 2, none⟩ = some (.float .f64 ((rd_T26 l0 x3_1).f2.f0)) ∧ w'.cell? ⟨(ad359.add ((x3_1).toNat * 10)).block, (ad359.add ((x3_1).toNat * 10)).off + 3, none⟩ = some (.float .f64 ((rd_T26 l0 x3_1).f2.f1)) ∧ w'.cell? ⟨(ad359.add ((x3_1).toNat * 10)).block, (ad359.add ((x3_1).toNat * 10)).off + 4, none⟩ = some (.float .f64 ((rd_T26 l0 x3_1).f2.f2)) ∧ w'.cell? ⟨(ad359.add ((x3_1).toNat * 10)).block, (ad359.add ((x3_1).toNat * 10)).off + 5, none⟩ = some (.float .f64 ((rd_T26 l0 x3_1).f2.f3)) ∧ w'.cell? ⟨(ad359.add ((x3_1).toNat * 10)).block, (ad359.add ((x3_1).toNat * 10)).off + 6, none⟩ = some (.float .f64 ((rd_T26 l0 x3_1).f2.f4)) ∧ w'.cell? ⟨(ad359.add ((x3_1).toNat * 10)).block, (ad359.add ((x3_1).toNat * 10)).off + 7, none⟩ = some (.float .f64 ((rd_T26 l0 x3_1).f2.f5)) ∧ w'.cell? ⟨(ad359.add ((x3_1).toNat * 10)).block, (ad359.add ((x3_1).toNat * 10)).off + 8, none⟩ = some (.float .f64 ((rd_T26 l0 x3_1).f2.f6)) ∧ w'.cell? ⟨(ad359.add ((x3_1).toNat * 10)).block, (ad359.add ((x3_1).toNat * 10)).off + 9, none⟩ = some (.float .f64 ((rd_T26 l0 x3_1).f2.f7)) ∧ w'.cell? (ad359.add ((x3_1).toNat * 10)) = some (.int .i64 ((rd_T26 l0 x3_1).f0)) ∧ w'.cell? ⟨(ad359.add ((x3_1).toNat * 10)).block, (ad359.add ((x3_1).toNat * 10)).off + 1, none⟩ = some (.int .i64 ((rd_T26 l0 x3_1).f1)) ∧ w'.cell? ⟨(ad359.add ((x3_1).toNat * 10)).block, (ad359.add ((x3_1).toNat * 10)).off + 2, none⟩ = some (.float .f64 ((rd_T26 l0 x3_1).f2.f0)) ∧ w'.cell? ⟨(ad359.add ((x3_1).toNat * 10)).block, (ad359.add ((x3_1).toNat * 10)).off + 3, none⟩ = some (.float .f64 ((rd_T26 l0 x3_1).f2.f1)) ∧ w'.cell? ⟨(ad359.add ((x3_1).toNat * 10)).block, (ad359.add ((x3_1).toNat * 10)).off + 4, none⟩ = some (.float .f64 ((rd_T26 l0 x3_1).f2.f2)) ∧ w'.cell? ⟨(ad359.add ((x3_1).toNat * 10)).block, (ad359.add ((x3_1).toNat * 10)).off + 5, none⟩ = some (.float .f64 ((rd_T26 l0 x3_1).f2.f3)) ∧ w'.cell? ⟨(ad359.add ((x3_1).toNat * 10)).block, (ad359.add ((x3_1).toNat * 10)).off + 6, none⟩ = some (.float .f64 ((rd_T26 l0 x3_1).f2.f4)) ∧ w'.cell? ⟨(ad359.add ((x3_1).toNat * 10)).block, (ad359.add ((x3_1).toNat * 10)).off + 7, none⟩ = some (.float .f64 ((rd_T26 l0 x3_1).f2.f5)) ∧ w'.cell? ⟨(ad359.add ((x3_1).toNat * 10)).block, (ad359.add ((x3_1).toNat * 10)).off + 8, none⟩ = some (.float .f64 ((rd_T26 l0 x3_1).f2.f6)) ∧ w'.cell? ⟨(ad359.add ((x3_1).toNat * 10)).block, (ad359.add ((x3_1).toNat * 10)).off + 9, none⟩ = some (.float .f64 ((rd_T26 l0 x3_1).f2.f7))) (ds := []) #[false, false, false, false, false, false, false, false, false, false, false, false, false, false, false, false] (by kernel_rfl) rfl rfl ⟨((HB.out.cell (World.block_lt_of_cell? w _ hw359_0)).trans hw359_0), ((HB.out.cell (World.block_lt_of_cell? w _ hw359_1)).trans hw359_1), ((HB.out.cell (World.block_lt_of_cell? w _ hw359_2)).trans hw359_2), ((HB.out.cell (World.block_lt_of_cell? w _ hw359_3)).trans hw359_3), ((HB.out.cell (World.block_lt_of_cell? w _ hw359_4)).trans hw359_4), ((HB.out.cell (World.block_lt_of_cell? w _ hw359_5)).trans hw359_5), ((HB.out.cell (World.block_lt_of_cell? w _ hw359_6)).trans hw359_6), ((HB.out.cell (World.block_lt_of_cell? w _ hw359_7)).trans hw359_7), ((HB.out.cell (World.block_lt_of_cell? w _ hw359_8)).trans hw359_8), ((HB.out.cell (World.block_lt_of_cell? w _ hw359_9)).trans hw359_9), ((HB.out.cell (World.block_lt_of_cell? w _ hw361_0)).trans hw361_0), ((HB.out.cell (World.block_lt_of_cell? w _ hw361_1)).trans hw361_1), ((HB.out.cell (World.block_lt_of_cell? w _ hw361_2)).trans hw361_2), ((HB.out.cell (World.block_lt_of_cell? w _ hw361_3)).trans hw361_3), ((HB.out.cell (World.block_lt_of_cell? w _ hw361_4)).trans hw361_4), ((HB.out.cell (World.block_lt_of_cell? w _ hw361_5)).trans hw361_5), ((HB.out.cell (World.block_lt_of_cell? w _ hw361_6)).trans hw361_6), ((HB.out.cell (World.block_lt_of_cell? w _ hw361_7)).trans hw361_7), ((HB.out.cell (World.block_lt_of_cell? w _ hw361_8)).trans hw361_8), ((HB.out.cell (World.block_lt_of_cell? w _ hw361_9)).trans hw361_9)⟩ (fun hHeld => ?_); refine with_tabW arraslaw3_PointSums.tab7 arraslaw3_PointSums.bits7 (fun HT_ HW_ => ?_)
                      generalize wr.drew = w11 at HB hx359_0 hx359_1 hx359_2 hx359_3 hx359_4 hx359_5 hx359_6 hx359_7 hx359_8 hx359_9 hx361_0 hx361_1 hx361_2 hx361_3 hx361_4 hx361_5 hx361_6 hx361_7 hx361_8 hx361_9 hHeld ⊢
                      refine pure_ (i := 0) (N := some 28) (v := ?_) (a' := ?_) #[true, false, false, false, false, false, false, false, false, false, false, false, false, false, false, false] rfl rfl (any_of HT_.out (by kernel_rfl)) (fun _ _ _ h => h) (Or.inl ⟨by rfl, ?_⟩) ?_ ?_
                      rotate_left
                      · intro w'
                        go_simp
                        with_reducible rfl
                      rotate_left
                      · simp only [Act.put, List.setIfInBounds_toArray, List.set_cons_zero, List.set_cons_succ, i64_w, i32_w]
                        rfl
                      refine pure_ (i := 1) (N := some 29) (v := ?_) (a' := ?_) #[true, true, false, false, false, false, false, false, false, false, false, false, false, false, false, false] rfl rfl (any_of HT_.out (by kernel_rfl)) (fun _ _ _ h => h) (Or.inl ⟨by rfl, ?_⟩) ?_ ?_
                      rotate_left
                      · intro w'
                        go_simp
                        with_reducible rfl
                      rotate_left
                      · simp only [Act.put, List.setIfInBounds_toArray, List.set_cons_zero, List.set_cons_succ, i64_w, i32_w]
                        rfl
                      refine pure_ (i := 2) (N := some 30) (v := ?_) (a' := ?_) #[true, true, true, false, false, false, false, false, false, false, false, false, false, false, false, false] rfl rfl (any_of HT_.out (by kernel_rfl)) (fun _ _ _ h => h) (Or.inl ⟨by rfl, ?_⟩) ?_ ?_
                      rotate_left
                      · intro w'
                        go_simp
                        with_reducible rfl
                      rotate_left
                      · simp only [Act.put, List.setIfInBounds_toArray, List.set_cons_zero, List.set_cons_succ, i64_w, i32_w]
                        rfl
                      refine pure_ (i := 4) (N := some 32) (v := ?_) (a' := ?_) #[true, true, true, false, true, false, false, false, false, false, false, false, false, false, false, false] rfl rfl (any_of HT_.out (by kernel_rfl)) (fun _ _ _ h => h) (Or.inl ⟨by rfl, ?_⟩) ?_ ?_
                      rotate_left
                      · intro w'
                        go_simp
                        with_reducible rfl
                      rotate_left
                      · simp only [Act.put, List.setIfInBounds_toArray, List.set_cons_zero, List.set_cons_succ, i64_w, i32_w]
                        rfl
                      refine pure_ (i := 6) (N := some 34) (v := ?_) (a' := ?_) #[true, true, true, false, true, false, true, false, false, false, false, false, false, false, false, false] rfl rfl (any_of HT_.out (by kernel_rfl)) (fun _ _ _ h => h) (Or.inl ⟨by rfl, ?_⟩) ?_ ?_
                      rotate_left
                      · intro w'
                        go_simp
                        with_reducible rfl
                      rotate_left
                      · simp only [Act.put, List.setIfInBounds_toArray, List.set_cons_zero, List.set_cons_succ, i64_w, i32_w]
                        rfl
                      refine pure_ (i := 7) (N := some 35) (v := ?_) (a' := ?_) #[true, true, true, false, true, false, true, true, false, false, false, false, false, false, false, false] rfl rfl (any_of HT_.out (by kernel_rfl)) (fun _ _ _ h => h) (Or.inl ⟨by rfl, ?_⟩) ?_ ?_
                      rotate_left
                      · intro w'
                        go_simp
                        with_reducible rfl
                      rotate_left
                      · simp only [Act.put, List.setIfInBounds_toArray, List.set_cons_zero, List.set_cons_succ, i64_w, i32_w]
                        rfl
                      refine pure_ (i := 8) (N := some 36) (v := ?_) (a' := ?_) #[true, true, true, false, true, false, true, true, true, false, false, false, false, false, false, false] rfl rfl (any_of HT_.out (by kernel_rfl)) (fun _ _ _ h => h) (Or.inl ⟨by rfl, ?_⟩) ?_ ?_
                      rotate_left
                      · intro w'
                        go_simp
                        with_reducible rfl
                      rotate_left
                      · simp only [Act.put, List.setIfInBounds_toArray, List.set_cons_zero, List.set_cons_succ, i64_w, i32_w]
                        rfl
                      refine pure_ (i := 10) (N := some 38) (v := ?_) (a' := ?_) #[true, true, true, false, true, false, true, true, true, false, true, false, false, false, false, false] rfl rfl (any_of HT_.out (by kernel_rfl)) (fun _ _ _ h => h) (Or.inl ⟨by rfl, ?_⟩) ?_ ?_
                      rotate_left
                      · intro w'
                        go_simp
                        with_reducible rfl
                      rotate_left
                      · simp only [Act.put, List.setIfInBounds_toArray, List.set_cons_zero, List.set_cons_succ, i64_w, i32_w]
                        rfl
                      refine pure_ (i := 11) (N := some 39) (v := ?_) (a' := ?_) #[true, true, true, false, true, false, true, true, true, false, true, true, false, false, false, false] rfl rfl (any_of HT_.out (by kernel_rfl)) (fun _ _ _ h => h) (Or.inl ⟨by rfl, ?_⟩) ?_ ?_
                      rotate_left
                      · intro w'
                        go_simp
                        with_reducible rfl
                      rotate_left
                      · simp only [Act.put, List.setIfInBounds_toArray, List.set_cons_zero, List.set_cons_succ, i64_w, i32_w]
                        rfl
                      refine pure_ (i := 12) (N := some 40) (v := ?_) (a' := ?_) #[true, true, true, false, true, false, true, true, true, false, true, true, true, false, false, false] rfl rfl (any_of HT_.out (by kernel_rfl)) (fun _ _ _ h => h) (Or.inl ⟨by rfl, ?_⟩) ?_ ?_
                      rotate_left
                      · intro w'
                        go_simp
                        with_reducible rfl
                      rotate_left
                      · simp only [Act.put, List.setIfInBounds_toArray, List.set_cons_zero, List.set_cons_succ, i64_w, i32_w]
                        rfl
                      refine take_ (i := 3) (N := some 31) (v := ?_) (a' := ?_) #[true, true, true, true, true, false, true, true, true, false, true, true, true, false, false, false] rfl rfl (take_ofW HT_.out HW_.out (by kernel_rfl)) (fun _ _ _ h => h) (Or.inl ⟨by rfl, ?_⟩) hHeld ?_ ?_
                      rotate_left
                      · rintro w' ⟨s0, s1, s2, s3, s4, s5, s6, s7, s8, s9, s10, s11, s12, s13, s14, s15, s16, s17, s18, s19⟩
                        go_simp
                        with_reducible rfl
                      rotate_left
                      · simp only [Act.put, List.setIfInBounds_toArray, List.set_cons_zero, List.set_cons_succ, i64_w, i32_w]
                        rfl
                      refine take_ (i := 9) (N := some 37) (v := ?_) (a' := ?_) #[true, true, true, true, true, false, true, true, true, true, true, true, true, false, false, false] rfl rfl (take_ofW HT_.out HW_.out (by kernel_rfl)) (fun _ _ _ h => h) (Or.inl ⟨by rfl, ?_⟩) hHeld ?_ ?_
                      rotate_left
                      · rintro w' ⟨s0, s1, s2, s3, s4, s5, s6, s7, s8, s9, s10, s11, s12, s13, s14, s15, s16, s17, s18, s19⟩
                        go_simp
                        with_reducible rfl
                      rotate_left
                      · simp only [Act.put, List.setIfInBounds_toArray, List.set_cons_zero, List.set_cons_succ, i64_w, i32_w]
                        rfl
                      refine one_ (i := 5) (N := some 33) #[true, true, true, true, true, true, true, true, true, true, true, true, true, false, false, false] rfl rfl (one_of HT_.out (by kernel_rfl)) (by decide) (fun K hK => ?_)
                      refine goes_ Try.func14 (by kernel_rfl) rfl #[.agg #[.int .i64 ((rd_T26 l0 x3_1).f0), .int .i64 ((rd_T26 l0 x3_1).f1), .float .f64 ((rd_T26 l0 x3_1).f2.f0), .float .f64 ((rd_T26 l0 x3_1).f2.f1), .float .f64 ((rd_T26 l0 x3_1).f2.f2), .float .f64 ((rd_T26 l0 x3_1).f2.f3), .float .f64 ((rd_T26 l0 x3_1).f2.f4), .float .f64 ((rd_T26 l0 x3_1).f2.f5), .float .f64 ((rd_T26 l0 x3_1).f2.f6), .float .f64 ((rd_T26 l0 x3_1).f2.f7)], .int .i64 x4_3] (by rfl) rfl rfl (by (try simp only [List.map_toArray, List.map_cons, List.map_nil]); first | done | rfl | (simp only [List.length_drop, List.length_take]; rfl)) ?_
                      with_reducible refine (arraslaw3_Ask_c.calls ((rd_T26 l0 x3_1).f0) ((rd_T26 l0 x3_1).f1) ((rd_T26 l0 x3_1).f2.f0) ((rd_T26 l0 x3_1).f2.f1) ((rd_T26 l0 x3_1).f2.f2) ((rd_T26 l0 x3_1).f2.f3) ((rd_T26 l0 x3_1).f2.f4) ((rd_T26 l0 x3_1).f2.f5) ((rd_T26 l0 x3_1).f2.f6) ((rd_T26 l0 x3_1).f2.f7) x4_3 t360 _ A8.out).mono ?_
                      rintro e w12 ⟨rfl, hb⟩
                      refine ⟨_, rfl, ?_⟩
                      have n0_ := Aside0.mk (below_step (by repeat (first | (with_reducible first | exact HB.out | apply below_alloc | apply pw_below_drewN | apply below_drew1) | exact HB.out)) hb)
                      clear HB
                      have HB := n0_
                      clear n0_
                      (try clear hb)
                      (try clear hb2)
                      (try clear hk)
                      (try clear hi)
                      refine hK.out _ _ ⟨((HB.out.cell (World.block_lt_of_cell? w _ hw359_0)).trans hw359_0), ((HB.out.cell (World.block_lt_of_cell? w _ hw359_1)).trans hw359_1), ((HB.out.cell (World.block_lt_of_cell? w _ hw359_2)).trans hw359_2), ((HB.out.cell (World.block_lt_of_cell? w _ hw359_3)).trans hw359_3), ((HB.out.cell (World.block_lt_of_cell? w _ hw359_4)).trans hw359_4), ((HB.out.cell (World.block_lt_of_cell? w _ hw359_5)).trans hw359_5), ((HB.out.cell (World.block_lt_of_cell? w _ hw359_6)).trans hw359_6), ((HB.out.cell (World.block_lt_of_cell? w _ hw359_7)).trans hw359_7), ((HB.out.cell (World.block_lt_of_cell? w _ hw359_8)).trans hw359_8), ((HB.out.cell (World.block_lt_of_cell? w _ hw359_9)).trans hw359_9), ((HB.out.cell (World.block_lt_of_cell? w _ hw361_0)).trans hw361_0), ((HB.out.cell (World.block_lt_of_cell? w _ hw361_1)).trans hw361_1), ((HB.out.cell (World.block_lt_of_cell? w _ hw361_2)).trans hw361_2), ((HB.out.cell (World.block_lt_of_cell? w _ hw361_3)).trans hw361_3), ((HB.out.cell (World.block_lt_of_cell? w _ hw361_4)).trans hw361_4), ((HB.out.cell (World.block_lt_of_cell? w _ hw361_5)).trans hw361_5), ((HB.out.cell (World.block_lt_of_cell? w _ hw361_6)).trans hw361_6), ((HB.out.cell (World.block_lt_of_cell? w _ hw361_7)).trans hw361_7), ((HB.out.cell (World.block_lt_of_cell? w _ hw361_8)).trans hw361_8), ((HB.out.cell (World.block_lt_of_cell? w _ hw361_9)).trans hw361_9)⟩ (fun hHeld => ?_)
                      clear hK K
                      refine norm_ (a' := ?_) ?_ ?_
                      rotate_left
                      · show Act.put _ (some 33) _ = _
                        simp only [Act.put, List.setIfInBounds_toArray, List.set_cons_zero, List.set_cons_succ, i64_w, i32_w]
                        rfl
                      refine one_ (i := 13) (N := some 41) #[true, true, true, true, true, true, true, true, true, true, true, true, true, true, false, false] rfl rfl (one_of HT_.out (by kernel_rfl)) (by decide) (fun K hK => ?_)
                      refine goes_ Try.func14 (by kernel_rfl) rfl #[.agg #[.int .i64 ((rd_T26 l0 x3_1).f0), .int .i64 ((rd_T26 l0 x3_1).f1), .float .f64 ((rd_T26 l0 x3_1).f2.f0), .float .f64 ((rd_T26 l0 x3_1).f2.f1), .float .f64 ((rd_T26 l0 x3_1).f2.f2), .float .f64 ((rd_T26 l0 x3_1).f2.f3), .float .f64 ((rd_T26 l0 x3_1).f2.f4), .float .f64 ((rd_T26 l0 x3_1).f2.f5), .float .f64 ((rd_T26 l0 x3_1).f2.f6), .float .f64 ((rd_T26 l0 x3_1).f2.f7)], .int .i64 (Int.tmod (wrap64 (x4_3 + 1)) 4)] (by rfl) rfl rfl (by (try simp only [List.map_toArray, List.map_cons, List.map_nil]); first | done | rfl | (simp only [List.length_drop, List.length_take]; rfl)) ?_
                      with_reducible refine (arraslaw3_Ask_c.calls ((rd_T26 l0 x3_1).f0) ((rd_T26 l0 x3_1).f1) ((rd_T26 l0 x3_1).f2.f0) ((rd_T26 l0 x3_1).f2.f1) ((rd_T26 l0 x3_1).f2.f2) ((rd_T26 l0 x3_1).f2.f3) ((rd_T26 l0 x3_1).f2.f4) ((rd_T26 l0 x3_1).f2.f5) ((rd_T26 l0 x3_1).f2.f6) ((rd_T26 l0 x3_1).f2.f7) (Int.tmod (wrap64 (x4_3 + 1)) 4) t362 _ A9.out).mono ?_
                      rintro e w13 ⟨rfl, hb⟩
                      refine ⟨_, rfl, ?_⟩
                      have n0_ := Aside0.mk (below_step (by repeat (first | (with_reducible first | exact HB.out | apply below_alloc | apply pw_below_drewN | apply below_drew1) | exact HB.out)) hb)
                      clear HB
                      have HB := n0_
                      clear n0_
                      (try clear hb)
                      (try clear hb2)
                      (try clear hk)
                      (try clear hi)
                      refine hK.out _ _ ⟨((HB.out.cell (World.block_lt_of_cell? w _ hw359_0)).trans hw359_0), ((HB.out.cell (World.block_lt_of_cell? w _ hw359_1)).trans hw359_1), ((HB.out.cell (World.block_lt_of_cell? w _ hw359_2)).trans hw359_2), ((HB.out.cell (World.block_lt_of_cell? w _ hw359_3)).trans hw359_3), ((HB.out.cell (World.block_lt_of_cell? w _ hw359_4)).trans hw359_4), ((HB.out.cell (World.block_lt_of_cell? w _ hw359_5)).trans hw359_5), ((HB.out.cell (World.block_lt_of_cell? w _ hw359_6)).trans hw359_6), ((HB.out.cell (World.block_lt_of_cell? w _ hw359_7)).trans hw359_7), ((HB.out.cell (World.block_lt_of_cell? w _ hw359_8)).trans hw359_8), ((HB.out.cell (World.block_lt_of_cell? w _ hw359_9)).trans hw359_9), ((HB.out.cell (World.block_lt_of_cell? w _ hw361_0)).trans hw361_0), ((HB.out.cell (World.block_lt_of_cell? w _ hw361_1)).trans hw361_1), ((HB.out.cell (World.block_lt_of_cell? w _ hw361_2)).trans hw361_2), ((HB.out.cell (World.block_lt_of_cell? w _ hw361_3)).trans hw361_3), ((HB.out.cell (World.block_lt_of_cell? w _ hw361_4)).trans hw361_4), ((HB.out.cell (World.block_lt_of_cell? w _ hw361_5)).trans hw361_5), ((HB.out.cell (World.block_lt_of_cell? w _ hw361_6)).trans hw361_6), ((HB.out.cell (World.block_lt_of_cell? w _ hw361_7)).trans hw361_7), ((HB.out.cell (World.block_lt_of_cell? w _ hw361_8)).trans hw361_8), ((HB.out.cell (World.block_lt_of_cell? w _ hw361_9)).trans hw361_9)⟩ (fun hHeld => ?_)
                      clear hK K
                      refine norm_ (a' := ?_) ?_ ?_
                      rotate_left
                      · show Act.put _ (some 41) _ = _
                        simp only [Act.put, List.setIfInBounds_toArray, List.set_cons_zero, List.set_cons_succ, i64_w, i32_w]
                        rfl
                      refine pure_ (i := 14) (N := some 5) (v := ?_) (a' := ?_) #[true, true, true, true, true, true, true, true, true, true, true, true, true, true, true, false] rfl rfl (any_of HT_.out (by kernel_rfl)) (fun _ _ _ h => h) (Or.inl ⟨by rfl, ?_⟩) ?_ ?_
                      rotate_left
                      · intro w'
                        go_simp
                        with_reducible rfl
                      rotate_left
                      · simp only [Act.put, List.setIfInBounds_toArray, List.set_cons_zero, List.set_cons_succ, i64_w, i32_w]
                        rfl
                      refine pure_ (i := 15) (N := some 6) (v := ?_) (a' := ?_) #[true, true, true, true, true, true, true, true, true, true, true, true, true, true, true, true] rfl rfl (any_of HT_.out (by kernel_rfl)) (fun _ _ _ h => h) (Or.inl ⟨by rfl, ?_⟩) ?_ ?_
                      rotate_left
                      · intro w'
                        go_simp
                        with_reducible rfl
                      rotate_left
                      · simp only [Act.put, List.setIfInBounds_toArray, List.set_cons_zero, List.set_cons_succ, i64_w, i32_w]
                        rfl
                      refine done_ (done_of HT_.out (by kernel_rfl)) ?_
                      go_upto_region 8 with (fail)
                      go_cut [7] (fun v7 wc => ∃ (kq : Nat) (x7_9 : Bool), v7 = .bool x7_9 ∧ Aside0 (arraslaw3_PointSums.j3 kq l0 x3_1 x4_3 t360 t362 x7_9 = some r) ∧ Aside0 (kq ≤ k3) ∧ Aside0 (Below w.heap.size w wc))
                      case first =>
                        have H := HC10.out
                        clear HC10
                        replace H := Option.bind_eq_some_iff.mp H
                        obtain ⟨t363, A140, H⟩ := H
                        replace H : (if t363 = true then ((arrasref3_Point.f t362).bind fun t364 => (arraslaw3_PointSums.j3 k3 l0 x3_1 x4_3 t360 t362 t364)) else (arraslaw3_PointSums.j3 k3 l0 x3_1 x4_3 t360 t362 false)) = some r := H
                        have A14 := Aside0.mk A140
                        clear A140
                        by_cases c15 : t363 = true
                        · subst c15
                          have H1 : ((arrasref3_Point.f t362).bind fun t364 => (arraslaw3_PointSums.j3 k3 l0 x3_1 x4_3 t360 t362 t364)) = some r := by rw [if_pos rfl] at H; exact H
                          clear H
                          have H := H1
                          clear H1
                          replace H := Option.bind_eq_some_iff.mp H
                          obtain ⟨t364, A160, H⟩ := H
                          replace H : (arraslaw3_PointSums.j3 k3 l0 x3_1 x4_3 t360 t362 t364) = some r := H
                          have A16 := Aside0.mk A160
                          clear A160
                          have H' := Aside0.mk H
                          clear H
                          go_wp2_with (first | ((with_reducible refine gate_callee (f := 16) rfl ?_); refine goesL_ (some 43) rfl rfl Try.func16 (by kernel_rfl) rfl #[.complex .f64 t360.1 t360.2] rfl (by (try simp only [List.map_toArray, List.map_cons, List.map_nil]); first | done | rfl | (simp only [List.length_drop, List.length_take]; rfl)) ?_; (with_reducible refine (arrasref3_Point.calls t360 true _ A14.out).mono ?_); rintro e w' ⟨rfl, ⟨nd, rfl⟩⟩; refine ⟨_, rfl, ?_⟩) | (go_at_call 16; (with_reducible refine (arrasref3_Point.calls t362 t364 _ A16.out).mono ?_); rintro e w' ⟨rfl, ⟨nd, rfl⟩⟩))
                          go_meet
                          case rel => exact ⟨_, (t364), (by first | rfl | (simp; done) | (simp [*]; done)), H', ⟨by have := HK1.out; have := HJ1.out; have := HK3.out; first | omega | exact Nat.le_refl _⟩, ⟨by repeat (first | (with_reducible first | exact HB.out | apply below_alloc | apply pw_below_drewN | apply below_drew1) | exact HB.out)⟩⟩
                        · replace c15 := Bool.eq_false_iff.mpr c15
                          subst c15
                          have H1 : (arraslaw3_PointSums.j3 k3 l0 x3_1 x4_3 t360 t362 false) = some r := by rw [if_neg (show ¬ (false = true) by decide)] at H; exact H
                          clear H
                          have H := H1
                          clear H1
                          have H' := Aside0.mk H
                          clear H
                          go_wp2_with (first | ((with_reducible refine gate_callee (f := 16) rfl ?_); refine goesL_ (some 43) rfl rfl Try.func16 (by kernel_rfl) rfl #[.complex .f64 t360.1 t360.2] rfl (by (try simp only [List.map_toArray, List.map_cons, List.map_nil]); first | done | rfl | (simp only [List.length_drop, List.length_take]; rfl)) ?_; (with_reducible refine (arrasref3_Point.calls t360 false _ A14.out).mono ?_); rintro e w' ⟨rfl, ⟨nd, rfl⟩⟩; refine ⟨_, rfl, ?_⟩))
                          go_meet
                          case rel => exact ⟨_, (false), (by first | rfl | (simp; done) | (simp [*]; done)), H', ⟨by have := HK1.out; have := HJ1.out; have := HK3.out; first | omega | exact Nat.le_refl _⟩, ⟨by repeat (first | (with_reducible first | exact HB.out | apply below_alloc | apply pw_below_drewN | apply below_drew1) | exact HB.out)⟩⟩
                      case rest =>
                        clear HC10
                        try clear c1
                        try clear p2
                        try clear c3
                        try clear c3b0
                        try clear p3
                        try clear q3
                        try clear hx3
                        try clear c4
                        try clear c5
                        try clear c5b0
                        try clear c6
                        try clear c6b0
                        try clear p6
                        try clear c7
                        try clear c7b0
                        try clear c14
                        try clear c15
                        try clear c16
                        try clear hx359_0
                        try clear hx359_1
                        try clear hx359_2
                        try clear hx359_3
                        try clear hx359_4
                        try clear hx359_5
                        try clear hx359_6
                        try clear hx359_7
                        try clear hx359_8
                        try clear hx359_9
                        try clear hx361_0
                        try clear hx361_1
                        try clear hx361_2
                        try clear hx361_3
                        try clear hx361_4
                        try clear hx361_5
                        try clear hx361_6
                        try clear hx361_7
                        try clear hx361_8
                        try clear hx361_9
                        try clear p2
                        try clear p359
                        try clear p361
                        try clear q359
                        try clear q361
                        obtain ⟨kq, x7_9, rfl, HA, HJ9, HB⟩ := hcut
                        cases kq with
                        | zero => exact absurd HA.out (by simp [arraslaw3_PointSums.j3])
                        | succ kj9 =>
                          have H := HA.out
                          clear HA
                          simp only [arraslaw3_PointSums.j3] at H
                          replace H := Option.bind_eq_some_iff.mp H
                          obtain ⟨⟨t365, t366⟩, A170, H⟩ := H
                          replace H : ((point_Sub.f kj9 t360 t362).bind fun bt367 => (if x7_9 = true then ((arrasref3_Add.f t360 t362).bind fun t369 => ((arrasref3_Sub.f t360 t362).bind fun t370 => (arraslaw3_PointSums.j4 kj9 l0 x3_1 x4_3 x7_9 t365 t366 bt367.1 bt367.2 t369 t370))) else (arraslaw3_PointSums.j4 kj9 l0 x3_1 x4_3 x7_9 t365 t366 bt367.1 bt367.2 ((0, 0) : C128) ((0, 0) : C128)))) = some r := H
                          have A17 := Aside0.mk A170
                          clear A170
                          replace H := Option.bind_eq_some_iff.mp H
                          obtain ⟨⟨t367, t368⟩, A180, H⟩ := H
                          replace H : (if x7_9 = true then ((arrasref3_Add.f t360 t362).bind fun t369 => ((arrasref3_Sub.f t360 t362).bind fun t370 => (arraslaw3_PointSums.j4 kj9 l0 x3_1 x4_3 x7_9 t365 t366 t367 t368 t369 t370))) else (arraslaw3_PointSums.j4 kj9 l0 x3_1 x4_3 x7_9 t365 t366 t367 t368 ((0, 0) : C128) ((0, 0) : C128))) = some r := H
                          have A18 := Aside0.mk A180
                          clear A180
                          have HC19 := Aside0.mk H
                          clear H
                          go_upto_if 60 with (first | ((with_reducible refine gate_callee (f := 21) rfl ?_); refine goesL_ (some 51) rfl rfl Try.func21 (by kernel_rfl) rfl #[.complex .f64 t360.1 t360.2, .complex .f64 t362.1 t362.2] rfl (by (try simp only [List.map_toArray, List.map_cons, List.map_nil]); first | done | rfl | (simp only [List.length_drop, List.length_take]; rfl)) ?_; (with_reducible refine (point_Add.calls kj9 t360 t362 t365 t366 _ A17.out).mono ?_); rintro e w20 ⟨rfl, hb⟩; refine ⟨_, rfl, ?_⟩; have n0_ := Aside0.mk (below_step (by repeat (first | (with_reducible first | exact HB.out | apply below_alloc | apply pw_below_drewN | apply below_drew1) | exact HB.out)) hb); clear HB; have HB := n0_; clear n0_; (try clear hb); (try clear hb2); (try clear hk); (try clear hi)) | ((with_reducible refine gate_callee (f := 23) rfl ?_); refine goesL_ (some 57) rfl rfl Try.func23 (by kernel_rfl) rfl #[.complex .f64 t360.1 t360.2, .complex .f64 t362.1 t362.2] rfl (by (try simp only [List.map_toArray, List.map_cons, List.map_nil]); first | done | rfl | (simp only [List.length_drop, List.length_take]; rfl)) ?_; (with_reducible refine (point_Sub.calls kj9 t360 t362 t367 t368 _ A18.out).mono ?_); rintro e w21 ⟨rfl, hb⟩; refine ⟨_, rfl, ?_⟩; have n0_ := Aside0.mk (below_step (by repeat (first | (with_reducible first | exact HB.out | apply below_alloc | apply pw_below_drewN | apply below_drew1) | exact HB.out)) hb); clear HB; have HB := n0_; clear n0_; (try clear hb); (try clear hb2); (try clear hk); (try clear hi)))
                          (try simp only [Act.put, List.setIfInBounds_toArray, List.set_cons_zero, List.set_cons_succ])
                          go_cut [12, 13] (fun v12 v13 wc => ∃ (kq : Nat) (x12_18 : C128) (x13_18 : C128), v12 = .complex .f64 x12_18.1 x12_18.2 ∧ v13 = .complex .f64 x13_18.1 x13_18.2 ∧ Aside0 (arraslaw3_PointSums.j4 kq l0 x3_1 x4_3 x7_9 t365 t366 t367 t368 x12_18 x13_18 = some r) ∧ Aside0 (kq ≤ kj9) ∧ Aside0 (Below w.heap.size w wc))
                          case first =>
                            have H := HC19.out
                            clear HC19
                            by_cases c22 : x7_9 = true
                            · subst c22
                              have H1 : ((arrasref3_Add.f t360 t362).bind fun t369 => ((arrasref3_Sub.f t360 t362).bind fun t370 => (arraslaw3_PointSums.j4 kj9 l0 x3_1 x4_3 true t365 t366 t367 t368 t369 t370))) = some r := by rw [if_pos rfl] at H; exact H
                              clear H
                              have H := H1
                              clear H1
                              replace H := Option.bind_eq_some_iff.mp H
                              obtain ⟨t369, A230, H⟩ := H
                              replace H : ((arrasref3_Sub.f t360 t362).bind fun t370 => (arraslaw3_PointSums.j4 kj9 l0 x3_1 x4_3 true t365 t366 t367 t368 t369 t370)) = some r := H
                              have A23 := Aside0.mk A230
                              clear A230
                              replace H := Option.bind_eq_some_iff.mp H
                              obtain ⟨t370, A240, H⟩ := H
                              replace H : (arraslaw3_PointSums.j4 kj9 l0 x3_1 x4_3 true t365 t366 t367 t368 t369 t370) = some r := H
                              have A24 := Aside0.mk A240
                              clear A240
                              have H' := Aside0.mk H
                              clear H
                              go_wp2_with (first | ((with_reducible refine gate_callee (f := 27) rfl ?_); refine goesL_ (some 63) rfl rfl Try.func27 (by kernel_rfl) rfl #[.complex .f64 t360.1 t360.2, .complex .f64 t362.1 t362.2] rfl (by (try simp only [List.map_toArray, List.map_cons, List.map_nil]); first | done | rfl | (simp only [List.length_drop, List.length_take]; rfl)) ?_; (with_reducible refine (arrasref3_Add.calls t360 t362 t369 _ A23.out).mono ?_); rintro e w25 ⟨rfl, hb⟩; refine ⟨_, rfl, ?_⟩; have n0_ := Aside0.mk (below_step (by repeat (first | (with_reducible first | exact HB.out | apply below_alloc | apply pw_below_drewN | apply below_drew1) | exact HB.out)) hb); clear HB; have HB := n0_; clear n0_; (try clear hb); (try clear hb2); (try clear hk); (try clear hi)) | ((with_reducible refine gate_callee (f := 28) rfl ?_); refine goesL_ (some 66) rfl rfl Try.func28 (by kernel_rfl) rfl #[.complex .f64 t360.1 t360.2, .complex .f64 t362.1 t362.2] rfl (by (try simp only [List.map_toArray, List.map_cons, List.map_nil]); first | done | rfl | (simp only [List.length_drop, List.length_take]; rfl)) ?_; (with_reducible refine (arrasref3_Sub.calls t360 t362 t370 _ A24.out).mono ?_); rintro e w26 ⟨rfl, hb⟩; refine ⟨_, rfl, ?_⟩; have n0_ := Aside0.mk (below_step (by repeat (first | (with_reducible first | exact HB.out | apply below_alloc | apply pw_below_drewN | apply below_drew1) | exact HB.out)) hb); clear HB; have HB := n0_; clear n0_; (try clear hb); (try clear hb2); (try clear hk); (try clear hi)))
                              go_meet
                              case rel => exact ⟨_, (t369), (t370), (by first | rfl | (simp; done) | (simp [*]; done)), (by first | rfl | (simp; done) | (simp [*]; done)), H', ⟨by have := HK1.out; have := HJ1.out; have := HK3.out; have := HJ9.out; first | omega | exact Nat.le_refl _⟩, ⟨by repeat (first | (with_reducible first | exact HB.out | apply below_alloc | apply pw_below_drewN | apply below_drew1) | exact HB.out)⟩⟩
                            · replace c22 := Bool.eq_false_iff.mpr c22
                              subst c22
                              have H1 : (arraslaw3_PointSums.j4 kj9 l0 x3_1 x4_3 false t365 t366 t367 t368 ((0, 0) : C128) ((0, 0) : C128)) = some r := by rw [if_neg (show ¬ (false = true) by decide)] at H; exact H
                              clear H
                              have H := H1
                              clear H1
                              have H' := Aside0.mk H
                              clear H
                              go_wp2
                              go_meet
                              case rel => exact ⟨_, (((0, 0) : C128)), (((0, 0) : C128)), (by first | rfl | (simp; done) | (simp [*]; done)), (by first | rfl | (simp; done) | (simp [*]; done)), H', ⟨by have := HK1.out; have := HJ1.out; have := HK3.out; have := HJ9.out; first | omega | exact Nat.le_refl _⟩, ⟨by repeat (first | (with_reducible first | exact HB.out | apply below_alloc | apply pw_below_drewN | apply below_drew1) | exact HB.out)⟩⟩
                          case rest =>
                            clear HC19
                            try clear c1
                            try clear c2
                            try clear p2
                            try clear c3
                            try clear c3b0
                            try clear p3
                            try clear q3
                            try clear hx3
                            try clear c4
                            try clear c5
                            try clear c5b0
                            try clear c6
                            try clear c6b0
                            try clear p6
                            try clear c7
                            try clear c7b0
                            try clear c14
                            try clear c15
                            try clear c16
                            try clear c21
                            try clear c22
                            try clear c23
                            try clear hx359_0
                            try clear hx359_1
                            try clear hx359_2
                            try clear hx359_3
                            try clear hx359_4
                            try clear hx359_5
                            try clear hx359_6
                            try clear hx359_7
                            try clear hx359_8
                            try clear hx359_9
                            try clear hx361_0
                            try clear hx361_1
                            try clear hx361_2
                            try clear hx361_3
                            try clear hx361_4
                            try clear hx361_5
                            try clear hx361_6
                            try clear hx361_7
                            try clear hx361_8
                            try clear hx361_9
                            try clear p2
                            try clear p3
                            try clear p359
                            try clear p361
                            try clear p6
                            try clear q3
                            try clear q359
                            try clear q361
                            obtain ⟨kq, x12_18, x13_18, rfl, rfl, HA, HJ18, HB⟩ := hcut
                            cases kq with
                            | zero => exact absurd HA.out (by simp [arraslaw3_PointSums.j4])
                            | succ kj18 =>
                              have H := HA.out
                              clear HA
                              simp only [arraslaw3_PointSums.j4] at H
                              replace H := Option.bind_eq_some_iff.mp H
                              obtain ⟨t371, A270, H⟩ := H
                              replace H : (if t371 = true then ((arraslaw3_told.f t367 t368 x7_9 x13_18).bind fun t372 => (if t372 = true then (arraslaw3_PointSums.l1 kj18 l0 x3_1 (wrap64 (x4_3 + 1))) else (some false))) else (some false)) = some r := H
                              have A27 := Aside0.mk A270
                              clear A270
                              by_cases c28 : t371 = true
                              · subst c28
                                have H1 : ((arraslaw3_told.f t367 t368 x7_9 x13_18).bind fun t372 => (if t372 = true then (arraslaw3_PointSums.l1 kj18 l0 x3_1 (wrap64 (x4_3 + 1))) else (some false))) = some r := by rw [if_pos rfl] at H; exact H
                                clear H
                                have H := H1
                                clear H1
                                replace H := Option.bind_eq_some_iff.mp H
                                obtain ⟨t372, A290, H⟩ := H
                                replace H : (if t372 = true then (arraslaw3_PointSums.l1 kj18 l0 x3_1 (wrap64 (x4_3 + 1))) else (some false)) = some r := H
                                have A29 := Aside0.mk A290
                                clear A290
                                by_cases c30 : t372 = true
                                · subst c30
                                  have H1 : (arraslaw3_PointSums.l1 kj18 l0 x3_1 (wrap64 (x4_3 + 1))) = some r := by rw [if_pos rfl] at H; exact H
                                  clear H
                                  have H := H1
                                  clear H1
                                  have H' := Aside0.mk H
                                  clear H
                                  go_wp2_with (first | ((with_reducible refine gate_callee (f := 11) rfl ?_); refine goesL_ (some 71) rfl rfl Try.func11 (by kernel_rfl) rfl #[.complex .f64 t365.1 t365.2, .int .i64 t366, .bool x7_9, .complex .f64 x12_18.1 x12_18.2] rfl (by (try simp only [List.map_toArray, List.map_cons, List.map_nil]); first | done | rfl | (simp only [List.length_drop, List.length_take]; rfl)) ?_; (with_reducible refine (arraslaw3_told.calls t365 t366 x7_9 x12_18 true _ A27.out).mono ?_); rintro e w' ⟨rfl, ⟨nd, rfl⟩⟩; refine ⟨_, rfl, ?_⟩) | (go_at_call 11; (with_reducible refine (arraslaw3_told.calls t367 t368 x7_9 x13_18 true _ A29.out).mono ?_); rintro e w' ⟨rfl, ⟨nd, rfl⟩⟩))
                                  go_roundg kj18
                                  case measure => have := HK1.out; have := HJ1.out; have := HK3.out; have := HJ9.out; have := HJ18.out; omega
                                  case rel => exact ⟨(wrap64 (x4_3 + 1)), (by first | rfl | (simp; done) | (simp [*]; done)), H', ⟨by have := HK1.out; have := HJ1.out; have := HK3.out; have := HJ9.out; have := HJ18.out; omega⟩, ⟨by repeat (first | (with_reducible first | exact HB.out | apply below_alloc | apply pw_below_drewN | apply below_drew1) | exact HB.out)⟩⟩
                                · replace c30 := Bool.eq_false_iff.mpr c30
                                  subst c30
                                  have H1 : (some false) = some r := by rw [if_neg (show ¬ (false = true) by decide)] at H; exact H
                                  clear H
                                  have H := H1
                                  clear H1
                                  obtain rfl := Option.some.inj H
                                  go_wp2_with (first | ((with_reducible refine gate_callee (f := 11) rfl ?_); refine goesL_ (some 71) rfl rfl Try.func11 (by kernel_rfl) rfl #[.complex .f64 t365.1 t365.2, .int .i64 t366, .bool x7_9, .complex .f64 x12_18.1 x12_18.2] rfl (by (try simp only [List.map_toArray, List.map_cons, List.map_nil]); first | done | rfl | (simp only [List.length_drop, List.length_take]; rfl)) ?_; (with_reducible refine (arraslaw3_told.calls t365 t366 x7_9 x12_18 true _ A27.out).mono ?_); rintro e w' ⟨rfl, ⟨nd, rfl⟩⟩; refine ⟨_, rfl, ?_⟩) | (go_at_call 11; (with_reducible refine (arraslaw3_told.calls t367 t368 x7_9 x13_18 false _ A29.out).mono ?_); rintro e w' ⟨rfl, ⟨nd, rfl⟩⟩))
                                  go_ret
                                  exact ⟨by first | rfl | (simp [errW_none, errW_some] <;> rfl) | (simp [*, errW_none, errW_some] <;> rfl), by repeat (first | (with_reducible first | exact HB.out | apply below_alloc | apply pw_below_drewN | apply below_drew1) | exact HB.out)⟩
                              · replace c28 := Bool.eq_false_iff.mpr c28
                                subst c28
                                have H1 : (some false) = some r := by rw [if_neg (show ¬ (false = true) by decide)] at H; exact H
                                clear H
                                have H := H1
                                clear H1
                                obtain rfl := Option.some.inj H
                                go_wp2_with (first | ((with_reducible refine gate_callee (f := 11) rfl ?_); refine goesL_ (some 71) rfl rfl Try.func11 (by kernel_rfl) rfl #[.complex .f64 t365.1 t365.2, .int .i64 t366, .bool x7_9, .complex .f64 x12_18.1 x12_18.2] rfl (by (try simp only [List.map_toArray, List.map_cons, List.map_nil]); first | done | rfl | (simp only [List.length_drop, List.length_take]; rfl)) ?_; (with_reducible refine (arraslaw3_told.calls t365 t366 x7_9 x12_18 false _ A27.out).mono ?_); rintro e w' ⟨rfl, ⟨nd, rfl⟩⟩; refine ⟨_, rfl, ?_⟩))
                                go_ret
                                exact ⟨by first | rfl | (simp [errW_none, errW_some] <;> rfl) | (simp [*, errW_none, errW_some] <;> rfl), by repeat (first | (with_reducible first | exact HB.out | apply below_alloc | apply pw_below_drewN | apply below_drew1) | exact HB.out)⟩
                    · rw [if_neg c7] at H
                      exact absurd H (by simp)
                  · rw [if_neg c6] at H
                    exact absurd H (by simp)
                · rw [if_neg c5] at H
                  have c5b0 : decide (x4_3 < 4) = false := decide_eq_false c5
                  clear c5
                  have H' := Aside0.mk H
                  clear H
                  go_wp2
                  go_roundg k3
                  case measure => have := HK1.out; have := HJ1.out; have := HK3.out; omega
                  case rel => exact ⟨(wrap64 (x3_1 + 1)), (by first | rfl | (simp; done) | (simp [*]; done)), H', ⟨by have := HK1.out; have := HJ1.out; have := HK3.out; omega⟩, ⟨by repeat (first | (with_reducible first | exact HB.out | apply below_alloc | apply pw_below_drewN | apply below_drew1) | exact HB.out)⟩⟩
          · replace c4 := Bool.eq_false_iff.mpr c4
            subst c4
            have H1 : ((arraslaw3_wakes.f kj1).bind fun t358 => (some t358)) = some r := by rw [if_neg (show ¬ (false = true) by decide)] at H; exact H
            clear H
            have H := H1
            clear H1
            replace H := Option.bind_eq_some_iff.mp H
            obtain ⟨t358, A310, H⟩ := H
            replace H : (some t358) = some r := H
            have A31 := Aside0.mk A310
            clear A310
            obtain rfl := Option.some.inj H
            go_wp2_with (first | ((with_reducible refine gate_callee (f := 20) rfl ?_); refine goesL_ (some 81) rfl rfl Try.func20 (by kernel_rfl) rfl #[] rfl (by (try simp only [List.map_toArray, List.map_cons, List.map_nil]); first | done | rfl | (simp only [List.length_drop, List.length_take]; rfl)) ?_; (with_reducible refine (arraslaw3_wakes.calls kj1  t358 _ A31.out).mono ?_); rintro e w32 ⟨rfl, hb⟩; refine ⟨_, rfl, ?_⟩; have n0_ := Aside0.mk (below_step (by repeat (first | (with_reducible first | exact HB.out | apply below_alloc | apply pw_below_drewN | apply below_drew1) | exact HB.out)) hb); clear HB; have HB := n0_; clear n0_; (try clear hb); (try clear hb2); (try clear hk); (try clear hi)))
            go_ret
            exact ⟨by first | rfl | (simp [errW_none, errW_some] <;> rfl) | (simp [*, errW_none, errW_some] <;> rfl), by repeat (first | (with_reducible first | exact HB.out | apply below_alloc | apply pw_below_drewN | apply below_drew1) | exact HB.out)⟩

end Go.Proofs.Ytdpeeinmckohgaa.PB
