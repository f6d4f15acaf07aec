-- Written by wprint.py, a program of this session's, over the kit's print.
import Derived.Test.YtdpeeinmckohgaaPBx0
import Derived.Test.YtdpeeinmckohgaaPBx1
import Derived.Test.YtdpeeinmckohgaaPBx2
import Derived.Test.YtdpeeinmckohgaaPBx4
import Derived.Test.YtdpeeinmckohgaaPBx6
namespace Go.Proofs.Ytdpeeinmckohgaa.PB
open Go.RowKit Go.Proofs.YtdpeeinmckohgaaW.PrintWords Go.Proofs.YtdpeeinmckohgaaW.PrintLast Go.Proofs.YtdpeeinmckohgaaW.PrintMore
attribute [local go_sem] max2_int min2_int max_two min_two max_three min_three max_four min_four fl_eql fl_neq fl_lss fl_leq fl_gtr fl_geq fl_add fl_of fl_int cx_mk cx_real cx_imag cx_eql cx_neq cx_add   -- for this text's walks alone
set_option linter.unusedVariables false
set_option linter.unusedSimpArgs false

/-! ### arraslaw3_PointHas: function 5 -/
mutual
def arraslaw3_PointHas.l0 : Nat → List (S26) → Int → Option (Bool)
  | 0, _, _ => none
  | k + 1, x0, x3 => if x3 < (x0.length : Int) then (arraslaw3_PointHas.j1 k x0 x3 (decide (x3 < 12))) else (arraslaw3_PointHas.j1 k x0 x3 false)
def arraslaw3_PointHas.j1 : Nat → List (S26) → Int → Bool → Option (Bool)
  | 0, _, _, _ => none
  | k + 1, x0, x3, x18 => if x18 = true then (if 0 ≤ x3 then (if x3 < (x0.length : Int) then ((arraslaw3_Ask_c.f ((rd_T26 x0 x3).f0) ((rd_T26 x0 x3).f1) ((rd_T26 x0 x3).f2.f0) ((rd_T26 x0 x3).f2.f1) ((rd_T26 x0 x3).f2.f2) ((rd_T26 x0 x3).f2.f3) ((rd_T26 x0 x3).f2.f4) ((rd_T26 x0 x3).f2.f5) ((rd_T26 x0 x3).f2.f6) ((rd_T26 x0 x3).f2.f7) 0).bind fun t339 => ((arraslaw3_Ask_c.f ((rd_T26 x0 x3).f0) ((rd_T26 x0 x3).f1) ((rd_T26 x0 x3).f2.f0) ((rd_T26 x0 x3).f2.f1) ((rd_T26 x0 x3).f2.f2) ((rd_T26 x0 x3).f2.f3) ((rd_T26 x0 x3).f2.f4) ((rd_T26 x0 x3).f2.f5) ((rd_T26 x0 x3).f2.f6) ((rd_T26 x0 x3).f2.f7) 1).bind fun t341 => ((arraslaw3_Ask_c.f ((rd_T26 x0 x3).f0) ((rd_T26 x0 x3).f1) ((rd_T26 x0 x3).f2.f0) ((rd_T26 x0 x3).f2.f1) ((rd_T26 x0 x3).f2.f2) ((rd_T26 x0 x3).f2.f3) ((rd_T26 x0 x3).f2.f4) ((rd_T26 x0 x3).f2.f5) ((rd_T26 x0 x3).f2.f6) ((rd_T26 x0 x3).f2.f7) 2).bind fun t343 => ((arrasref3_Box.f t339 t341).bind fun t344 => (if t344 = true then ((arrasref3_Point.f t343).bind fun t345 => (arraslaw3_PointHas.j2 k x0 x3 t339 t341 t343 1 false t345)) else (arraslaw3_PointHas.j2 k x0 x3 t339 t341 t343 1 false false)))))) else (none)) else (none)) else ((arraslaw3_wakes.f k).bind fun t337 => (some t337))
def arraslaw3_PointHas.j2 : Nat → List (S26) → Int → C128 → C128 → C128 → Int → Bool → Bool → Option (Bool)
  | 0, _, _, _, _, _, _, _, _ => none
  | k + 1, x0, x3, x4, x5, x6, x7, x8, x42 => if x42 = true then ((arrasref3_Has.f x4 x5 x6).bind fun t346 => (arraslaw3_PointHas.j3 k x0 x3 x4 x5 x6 0 t346)) else (arraslaw3_PointHas.j3 k x0 x3 x4 x5 x6 x7 x8)
def arraslaw3_PointHas.j3 : Nat → List (S26) → Int → C128 → C128 → C128 → Int → Bool → Option (Bool)
  | 0, _, _, _, _, _, _, _ => none
  | k + 1, x0, x3, x4, x5, x6, x7, x8 => (point_Has.f k x4 x5 x6).bind fun bt347 => ((arraslaw3_num.f bt347.2).bind fun t349 => (if t349 = x7 then (if (bt347.1 != x8) = true then (some false) else (arraslaw3_PointHas.l0 k x0 (wrap64 (x3 + 1)))) else (some false)))
end
def arraslaw3_PointHas.f (k : Nat) (l0 : List (S26)) : Option (Bool) := arraslaw3_PointHas.l0 k l0 0
theorem arraslaw3_PointHas.mono_l : ∀ k, (∀ y0 y1, LeO (arraslaw3_PointHas.l0 k y0 y1) (arraslaw3_PointHas.l0 (k + 1) y0 y1)) ∧ (∀ y0 y1 y2, LeO (arraslaw3_PointHas.j1 k y0 y1 y2) (arraslaw3_PointHas.j1 (k + 1) y0 y1 y2)) ∧ (∀ y0 y1 y2 y3 y4 y5 y6 y7, LeO (arraslaw3_PointHas.j2 k y0 y1 y2 y3 y4 y5 y6 y7) (arraslaw3_PointHas.j2 (k + 1) y0 y1 y2 y3 y4 y5 y6 y7)) ∧ (∀ y0 y1 y2 y3 y4 y5 y6, LeO (arraslaw3_PointHas.j3 k y0 y1 y2 y3 y4 y5 y6) (arraslaw3_PointHas.j3 (k + 1) y0 y1 y2 y3 y4 y5 y6))
  | 0 => ⟨fun _ _ r h => by simp [arraslaw3_PointHas.l0] at h, fun _ _ _ r h => by simp [arraslaw3_PointHas.j1] at h, fun _ _ _ _ _ _ _ _ r h => by simp [arraslaw3_PointHas.j2] at h, fun _ _ _ _ _ _ _ r h => by simp [arraslaw3_PointHas.j3] at h⟩
  | k + 1 => by
    obtain ⟨ih0, ih1, ih2, ih3⟩ := arraslaw3_PointHas.mono_l k
    refine ⟨?_, ?_, ?_, ?_⟩
    · intro y0 y1
      unfold arraslaw3_PointHas.l0
      repeat' first
      | (with_reducible exact ih0 _ _)
      | (with_reducible exact ih1 _ _ _)
      | (with_reducible exact ih2 _ _ _ _ _ _ _ _)
      | (with_reducible exact ih3 _ _ _ _ _ _ _)
      | (with_reducible exact arraslaw3_wakes.mono _)
      | (with_reducible exact point_Has.mono _ _ _ _)
      | (with_reducible exact LeO.refl _)
      | (with_reducible exact LeO.none _)
      | (with_reducible refine LeO.ite ?_ ?_)
      | (with_reducible refine LeO.bind ?_ (fun _ => ?_))
      | exact ih0 _ _
      | exact ih1 _ _ _
      | exact ih2 _ _ _ _ _ _ _ _
      | exact ih3 _ _ _ _ _ _ _
      | exact arraslaw3_wakes.mono _
      | exact point_Has.mono _ _ _ _
      | exact LeO.none _
      | refine LeO.ite ?_ ?_
      | refine LeO.bind ?_ (fun _ => ?_)
    · intro y0 y1 y2
      unfold arraslaw3_PointHas.j1
      repeat' first
      | (with_reducible exact ih0 _ _)
      | (with_reducible exact ih1 _ _ _)
      | (with_reducible exact ih2 _ _ _ _ _ _ _ _)
      | (with_reducible exact ih3 _ _ _ _ _ _ _)
      | (with_reducible exact arraslaw3_wakes.mono _)
      | (with_reducible exact point_Has.mono _ _ _ _)
      | (with_reducible exact LeO.refl _)
      | (with_reducible exact LeO.none _)
      | (with_reducible refine LeO.ite ?_ ?_)
      | (with_reducible refine LeO.bind ?_ (fun _ => ?_))
      | exact ih0 _ _
      | exact ih1 _ _ _
      | exact ih2 _ _ _ _ _ _ _ _
      | exact ih3 _ _ _ _ _ _ _
      | exact arraslaw3_wakes.mono _
      | exact point_Has.mono _ _ _ _
      | exact LeO.none _
      | refine LeO.ite ?_ ?_
      | refine LeO.bind ?_ (fun _ => ?_)
    · intro y0 y1 y2 y3 y4 y5 y6 y7
      unfold arraslaw3_PointHas.j2
      repeat' first
      | (with_reducible exact ih0 _ _)
      | (with_reducible exact ih1 _ _ _)
      | (with_reducible exact ih2 _ _ _ _ _ _ _ _)
      | (with_reducible exact ih3 _ _ _ _ _ _ _)
      | (with_reducible exact arraslaw3_wakes.mono _)
      | (with_reducible exact point_Has.mono _ _ _ _)
      | (with_reducible exact LeO.refl _)
      | (with_reducible exact LeO.none _)
      | (with_reducible refine LeO.ite ?_ ?_)
      | (with_reducible refine LeO.bind ?_ (fun _ => ?_))
      | exact ih0 _ _
      | exact ih1 _ _ _
      | exact ih2 _ _ _ _ _ _ _ _
      | exact ih3 _ _ _ _ _ _ _
      | exact arraslaw3_wakes.mono _
      | exact point_Has.mono _ _ _ _
      | exact LeO.none _
      | refine LeO.ite ?_ ?_
      | refine LeO.bind ?_ (fun _ => ?_)
    · intro y0 y1 y2 y3 y4 y5 y6
      unfold arraslaw3_PointHas.j3
      repeat' first
      | (with_reducible exact ih0 _ _)
      | (with_reducible exact ih1 _ _ _)
      | (with_reducible exact ih2 _ _ _ _ _ _ _ _)
      | (with_reducible exact ih3 _ _ _ _ _ _ _)
      | (with_reducible exact arraslaw3_wakes.mono _)
      | (with_reducible exact point_Has.mono _ _ _ _)
      | (with_reducible exact LeO.refl _)
      | (with_reducible exact LeO.none _)
      | (with_reducible refine LeO.ite ?_ ?_)
      | (with_reducible refine LeO.bind ?_ (fun _ => ?_))
      | exact ih0 _ _
      | exact ih1 _ _ _
      | exact ih2 _ _ _ _ _ _ _ _
      | exact ih3 _ _ _ _ _ _ _
      | exact arraslaw3_wakes.mono _
      | exact point_Has.mono _ _ _ _
      | exact LeO.none _
      | refine LeO.ite ?_ ?_
      | refine LeO.bind ?_ (fun _ => ?_)
theorem arraslaw3_PointHas.mono : ∀ a0 k, LeO (arraslaw3_PointHas.f k a0) (arraslaw3_PointHas.f (k + 1) a0) := by
  intro a0 k
  obtain ⟨ih0, ih1, ih2, ih3⟩ := arraslaw3_PointHas.mono_l k
  unfold arraslaw3_PointHas.f
  repeat' first
      | (with_reducible exact ih0 _ _)
      | (with_reducible exact ih1 _ _ _)
      | (with_reducible exact ih2 _ _ _ _ _ _ _ _)
      | (with_reducible exact ih3 _ _ _ _ _ _ _)
      | (with_reducible exact arraslaw3_wakes.mono _)
      | (with_reducible exact point_Has.mono _ _ _ _)
      | (with_reducible exact LeO.refl _)
      | (with_reducible exact LeO.none _)
      | (with_reducible refine LeO.ite ?_ ?_)
      | (with_reducible refine LeO.bind ?_ (fun _ => ?_))
      | exact ih0 _ _
      | exact ih1 _ _ _
      | exact ih2 _ _ _ _ _ _ _ _
      | exact ih3 _ _ _ _ _ _ _
      | exact arraslaw3_wakes.mono _
      | exact point_Has.mono _ _ _ _
      | exact LeO.none _
      | refine LeO.ite ?_ ?_
      | refine LeO.bind ?_ (fun _ => ?_)
def arraslaw3_PointHas.T4 : Bool × List (List Nat × List Nat) := (true, [([], []), ([], []), ([0, 1], [0, 1]), ([2], [2]), ([3], [3]), ([], []), ([], []), ([5, 6], [5, 6]), ([7], [7]), ([8, 4], [8]), ([], []), ([], []), ([10, 11], [10, 11]), ([12], [12]), ([13, 9], [13]), ([4, 14, 0, 1, 2, 3, 4], [4]), ([9, 15, 0, 1, 2, 3, 4, 5, 6, 7, 8, 9, 15], [9]), ([14, 16, 0, 1, 2, 3, 4, 5, 6, 7, 8, 9, 10, 11, 12, 13, 14, 15, 16], [14])])
def arraslaw3_PointHas.B4 : List Nat := [0, 0, 3, 7, 15, 0, 0, 96, 224, 511, 0, 0, 3072, 7168, 16383, 32767, 65535, 131071]
theorem arraslaw3_PointHas.tab4 : rtab .any (opsOf Try.f5 4) = arraslaw3_PointHas.T4 := by kernel_rfl
theorem arraslaw3_PointHas.bits4 : waitsOk arraslaw3_PointHas.T4.2 arraslaw3_PointHas.B4 = true := by kernel_rfl
set_option maxHeartbeats 8000000 in
set_option maxRecDepth 100000 in
theorem arraslaw3_PointHas.calls (k : Nat) (A0 : Option Addr) (c0 : Nat) (l0 : List (S26)) (r : Bool) (w : World) (hr0 : Kd.C k26 w A0 l0.length l0) (hc0 : l0.length ≤ c0) (h : arraslaw3_PointHas.f k l0 = some r) :
    Calls Try.prog 5 #[.slice A0 l0.length c0] w fun e w' => e = .returned (.bool r) ∧ Below w.heap.size w w' := by
  have hu26 := Try.underlying26
  have HR0 := Aside0.mk hr0
  have HC0 := Aside0.mk hc0
  clear hr0 hc0
  have HB := Aside0.mk (Below.refl w.heap.size w)
  have H : (arraslaw3_PointHas.l0 k l0 0) = some r := h
  clear h
  have H' := Aside0.mk H
  clear H
  go_enter Try.func5, Try.ntmps5
  go_wp2
  go_loopg [3] k (fun kq v3 w' => ∃ (x3_1 : Int), v3 = .int .i64 x3_1 ∧ Aside0 (arraslaw3_PointHas.l0 kq l0 x3_1 = some r) ∧ Aside0 (kq ≤ k) ∧ Aside0 (Below w.heap.size w w'))
  case atStart => exact ⟨(0), (by first | rfl | (simp; done) | (simp [*]; done)), H', ⟨Nat.le_refl _⟩, ⟨by repeat (first | (with_reducible first | exact HB.out | apply below_alloc | apply pw_below_drewN | apply below_drew1) | exact HB.out)⟩⟩
  case round =>
    clear H'
    obtain ⟨x3_1, rfl, HA, HK1, HB⟩ := hrel
    cases gk with
    | zero => exact absurd HA.out (by simp [arraslaw3_PointHas.l0])
    | succ k1 =>
      have H := HA.out
      clear HA
      simp only [arraslaw3_PointHas.l0] at H
      have HC2 := Aside0.mk H
      clear H
      go_upto_region 2 with (fail)
      go_cut [18] (fun v18 wc => ∃ (kq : Nat) (x18_1 : Bool), v18 = .bool x18_1 ∧ Aside0 (arraslaw3_PointHas.j1 kq l0 x3_1 x18_1 = some r) ∧ Aside0 (kq ≤ k1) ∧ Aside0 (Below w.heap.size w wc))
      case first =>
        have H := HC2.out
        clear HC2
        by_cases c3 : x3_1 < (l0.length : Int)
        · rw [if_pos c3] at H
          have c3b0 : decide (x3_1 < (l0.length : Int)) = true := decide_eq_true c3
          clear c3
          (first | rw [c3b0] | (simp only [i64_w, i32_w]; rw [c3b0]) | skip)
          have H' := Aside0.mk H
          clear H
          go_wp2
          go_meet
          case rel => exact ⟨_, (decide (x3_1 < 12)), (by first | rfl | (simp; done) | (simp [*]; done)), H', ⟨by have := HK1.out; first | omega | exact Nat.le_refl _⟩, ⟨by repeat (first | (with_reducible first | exact HB.out | apply below_alloc | apply pw_below_drewN | apply below_drew1) | exact HB.out)⟩⟩
        · rw [if_neg c3] at H
          have c3b0 : decide (x3_1 < (l0.length : Int)) = false := decide_eq_false c3
          clear c3
          (first | rw [c3b0] | (simp only [i64_w, i32_w]; rw [c3b0]) | skip)
          have H' := Aside0.mk H
          clear H
          go_wp2
          go_meet
          case rel => exact ⟨_, (false), (by first | rfl | (simp; done) | (simp [*]; done)), H', ⟨by have := HK1.out; first | omega | exact Nat.le_refl _⟩, ⟨by repeat (first | (with_reducible first | exact HB.out | apply below_alloc | apply pw_below_drewN | apply below_drew1) | exact HB.out)⟩⟩
      case rest =>
        clear HC2
        try clear p2
        try clear c3
        try clear c3b0
        obtain ⟨kq, x18_1, rfl, HA, HJ1, HB⟩ := hcut
        cases kq with
        | zero => exact absurd HA.out (by simp [arraslaw3_PointHas.j1])
        | succ kj1 =>
          have H := HA.out
          clear HA
          simp only [arraslaw3_PointHas.j1] at H
          by_cases c4 : x18_1 = true
          · subst c4
            have H1 : (if 0 ≤ x3_1 then (if x3_1 < (l0.length : Int) then ((arraslaw3_Ask_c.f ((rd_T26 l0 x3_1).f0) ((rd_T26 l0 x3_1).f1) ((rd_T26 l0 x3_1).f2.f0) ((rd_T26 l0 x3_1).f2.f1) ((rd_T26 l0 x3_1).f2.f2) ((rd_T26 l0 x3_1).f2.f3) ((rd_T26 l0 x3_1).f2.f4) ((rd_T26 l0 x3_1).f2.f5) ((rd_T26 l0 x3_1).f2.f6) ((rd_T26 l0 x3_1).f2.f7) 0).bind fun t339 => ((arraslaw3_Ask_c.f ((rd_T26 l0 x3_1).f0) ((rd_T26 l0 x3_1).f1) ((rd_T26 l0 x3_1).f2.f0) ((rd_T26 l0 x3_1).f2.f1) ((rd_T26 l0 x3_1).f2.f2) ((rd_T26 l0 x3_1).f2.f3) ((rd_T26 l0 x3_1).f2.f4) ((rd_T26 l0 x3_1).f2.f5) ((rd_T26 l0 x3_1).f2.f6) ((rd_T26 l0 x3_1).f2.f7) 1).bind fun t341 => ((arraslaw3_Ask_c.f ((rd_T26 l0 x3_1).f0) ((rd_T26 l0 x3_1).f1) ((rd_T26 l0 x3_1).f2.f0) ((rd_T26 l0 x3_1).f2.f1) ((rd_T26 l0 x3_1).f2.f2) ((rd_T26 l0 x3_1).f2.f3) ((rd_T26 l0 x3_1).f2.f4) ((rd_T26 l0 x3_1).f2.f5) ((rd_T26 l0 x3_1).f2.f6) ((rd_T26 l0 x3_1).f2.f7) 2).bind fun t343 => ((arrasref3_Box.f t339 t341).bind fun t344 => (if t344 = true then ((arrasref3_Point.f t343).bind fun t345 => (arraslaw3_PointHas.j2 kj1 l0 x3_1 t339 t341 t343 1 false t345)) else (arraslaw3_PointHas.j2 kj1 l0 x3_1 t339 t341 t343 1 false false)))))) else (none)) else (none)) = some r := by rw [if_pos rfl] at H; exact H
            clear H
            have H := H1
            clear H1
            by_cases c5 : 0 ≤ x3_1
            · rw [if_pos c5] at H
              have c5b0 : decide (0 ≤ x3_1) = true := decide_eq_true c5
              clear c5
              by_cases c6 : x3_1 < (l0.length : Int)
              · rw [if_pos c6] at H
                have c6b0 : decide (x3_1 < (l0.length : Int)) = true := decide_eq_true c6
                clear c6
                replace H := Option.bind_eq_some_iff.mp H
                obtain ⟨t339, A70, H⟩ := H
                replace H : ((arraslaw3_Ask_c.f ((rd_T26 l0 x3_1).f0) ((rd_T26 l0 x3_1).f1) ((rd_T26 l0 x3_1).f2.f0) ((rd_T26 l0 x3_1).f2.f1) ((rd_T26 l0 x3_1).f2.f2) ((rd_T26 l0 x3_1).f2.f3) ((rd_T26 l0 x3_1).f2.f4) ((rd_T26 l0 x3_1).f2.f5) ((rd_T26 l0 x3_1).f2.f6) ((rd_T26 l0 x3_1).f2.f7) 1).bind fun t341 => ((arraslaw3_Ask_c.f ((rd_T26 l0 x3_1).f0) ((rd_T26 l0 x3_1).f1) ((rd_T26 l0 x3_1).f2.f0) ((rd_T26 l0 x3_1).f2.f1) ((rd_T26 l0 x3_1).f2.f2) ((rd_T26 l0 x3_1).f2.f3) ((rd_T26 l0 x3_1).f2.f4) ((rd_T26 l0 x3_1).f2.f5) ((rd_T26 l0 x3_1).f2.f6) ((rd_T26 l0 x3_1).f2.f7) 2).bind fun t343 => ((arrasref3_Box.f t339 t341).bind fun t344 => (if t344 = true then ((arrasref3_Point.f t343).bind fun t345 => (arraslaw3_PointHas.j2 kj1 l0 x3_1 t339 t341 t343 1 false t345)) else (arraslaw3_PointHas.j2 kj1 l0 x3_1 t339 t341 t343 1 false false))))) = some r := H
                have A7 := Aside0.mk A70
                clear A70
                replace H := Option.bind_eq_some_iff.mp H
                obtain ⟨t341, A80, H⟩ := H
                replace H : ((arraslaw3_Ask_c.f ((rd_T26 l0 x3_1).f0) ((rd_T26 l0 x3_1).f1) ((rd_T26 l0 x3_1).f2.f0) ((rd_T26 l0 x3_1).f2.f1) ((rd_T26 l0 x3_1).f2.f2) ((rd_T26 l0 x3_1).f2.f3) ((rd_T26 l0 x3_1).f2.f4) ((rd_T26 l0 x3_1).f2.f5) ((rd_T26 l0 x3_1).f2.f6) ((rd_T26 l0 x3_1).f2.f7) 2).bind fun t343 => ((arrasref3_Box.f t339 t341).bind fun t344 => (if t344 = true then ((arrasref3_Point.f t343).bind fun t345 => (arraslaw3_PointHas.j2 kj1 l0 x3_1 t339 t341 t343 1 false t345)) else (arraslaw3_PointHas.j2 kj1 l0 x3_1 t339 t341 t343 1 false false)))) = some r := H
                have A8 := Aside0.mk A80
                clear A80
                replace H := Option.bind_eq_some_iff.mp H
                obtain ⟨t343, A90, H⟩ := H
                replace H : ((arrasref3_Box.f t339 t341).bind fun t344 => (if t344 = true then ((arrasref3_Point.f t343).bind fun t345 => (arraslaw3_PointHas.j2 kj1 l0 x3_1 t339 t341 t343 1 false t345)) else (arraslaw3_PointHas.j2 kj1 l0 x3_1 t339 t341 t343 1 false false))) = some r := H
                have A9 := Aside0.mk A90
                clear A90
                have HC10 := Aside0.mk H
                clear H
                try go_wp2
                have n0_ := Aside0.mk (below_drew1 HB.out)
                clear HB
                have HB := n0_
                clear n0_
                have p338 : 0 ≤ (x3_1 : Int) := of_decide_eq_true (by first | (with_reducible assumption) | assumption)
                have q338 : x3_1 < (l0.length : Int) := of_decide_eq_true (by first | (with_reducible assumption) | assumption)
                obtain ⟨ad338, e338, hx338_0, hx338_1, hx338_2, hx338_3, hx338_4, hx338_5, hx338_6, hx338_7, hx338_8, hx338_9⟩ := at_T26 HR0.out x3_1 p338 q338
                have hw338_9 := hx338_9
                have hw338_8 := hx338_8
                have hw338_7 := hx338_7
                have hw338_6 := hx338_6
                have hw338_5 := hx338_5
                have hw338_4 := hx338_4
                have hw338_3 := hx338_3
                have hw338_2 := hx338_2
                have hw338_1 := hx338_1
                have hw338_0 := hx338_0
                cases e338
                replace hx338_0 := (HB.out.cell (World.block_lt_of_cell? w _ hx338_0)).trans hx338_0
                replace hx338_1 := (HB.out.cell (World.block_lt_of_cell? w _ hx338_1)).trans hx338_1
                replace hx338_2 := (HB.out.cell (World.block_lt_of_cell? w _ hx338_2)).trans hx338_2
                replace hx338_3 := (HB.out.cell (World.block_lt_of_cell? w _ hx338_3)).trans hx338_3
                replace hx338_4 := (HB.out.cell (World.block_lt_of_cell? w _ hx338_4)).trans hx338_4
                replace hx338_5 := (HB.out.cell (World.block_lt_of_cell? w _ hx338_5)).trans hx338_5
                replace hx338_6 := (HB.out.cell (World.block_lt_of_cell? w _ hx338_6)).trans hx338_6
                replace hx338_7 := (HB.out.cell (World.block_lt_of_cell? w _ hx338_7)).trans hx338_7
                replace hx338_8 := (HB.out.cell (World.block_lt_of_cell? w _ hx338_8)).trans hx338_8
                replace hx338_9 := (HB.out.cell (World.block_lt_of_cell? w _ hx338_9)).trans hx338_9
                replace p338 := eq_true p338
                replace q338 := eq_true q338
                have p340 : 0 ≤ (x3_1 : Int) := of_decide_eq_true (by first | (with_reducible assumption) | assumption)
                have q340 : x3_1 < (l0.length : Int) := of_decide_eq_true (by first | (with_reducible assumption) | assumption)
                obtain ⟨ad340, e340, hx340_0, hx340_1, hx340_2, hx340_3, hx340_4, hx340_5, hx340_6, hx340_7, hx340_8, hx340_9⟩ := at_T26 HR0.out x3_1 p340 q340
                have hw340_9 := hx340_9
                have hw340_8 := hx340_8
                have hw340_7 := hx340_7
                have hw340_6 := hx340_6
                have hw340_5 := hx340_5
                have hw340_4 := hx340_4
                have hw340_3 := hx340_3
                have hw340_2 := hx340_2
                have hw340_1 := hx340_1
                have hw340_0 := hx340_0
                obtain rfl : ad338 = ad340 := (by injection e340)
                replace hx340_0 := (HB.out.cell (World.block_lt_of_cell? w _ hx340_0)).trans hx340_0
                replace hx340_1 := (HB.out.cell (World.block_lt_of_cell? w _ hx340_1)).trans hx340_1
                replace hx340_2 := (HB.out.cell (World.block_lt_of_cell? w _ hx340_2)).trans hx340_2
                replace hx340_3 := (HB.out.cell (World.block_lt_of_cell? w _ hx340_3)).trans hx340_3
                replace hx340_4 := (HB.out.cell (World.block_lt_of_cell? w _ hx340_4)).trans hx340_4
                replace hx340_5 := (HB.out.cell (World.block_lt_of_cell? w _ hx340_5)).trans hx340_5
                replace hx340_6 := (HB.out.cell (World.block_lt_of_cell? w _ hx340_6)).trans hx340_6
                replace hx340_7 := (HB.out.cell (World.block_lt_of_cell? w _ hx340_7)).trans hx340_7
                replace hx340_8 := (HB.out.cell (World.block_lt_of_cell? w _ hx340_8)).trans hx340_8
                replace hx340_9 := (HB.out.cell (World.block_lt_of_cell? w _ hx340_9)).trans hx340_9
                replace p340 := eq_true p340
                replace q340 := eq_true q340
                have p342 : 0 ≤ (x3_1 : Int) := of_decide_eq_true (by first | (with_reducible assumption) | assumption)
                have q342 : x3_1 < (l0.length : Int) := of_decide_eq_true (by first | (with_reducible assumption) | assumption)
                obtain ⟨ad342, e342, hx342_0, hx342_1, hx342_2, hx342_3, hx342_4, hx342_5, hx342_6, hx342_7, hx342_8, hx342_9⟩ := at_T26 HR0.out x3_1 p342 q342
                have hw342_9 := hx342_9
                have hw342_8 := hx342_8
                have hw342_7 := hx342_7
                have hw342_6 := hx342_6
                have hw342_5 := hx342_5
                have hw342_4 := hx342_4
                have hw342_3 := hx342_3
                have hw342_2 := hx342_2
                have hw342_1 := hx342_1
                have hw342_0 := hx342_0
                obtain rfl : ad338 = ad342 := (by injection e342)
                replace hx342_0 := (HB.out.cell (World.block_lt_of_cell? w _ hx342_0)).trans hx342_0
                replace hx342_1 := (HB.out.cell (World.block_lt_of_cell? w _ hx342_1)).trans hx342_1
                replace hx342_2 := (HB.out.cell (World.block_lt_of_cell? w _ hx342_2)).trans hx342_2
                replace hx342_3 := (HB.out.cell (World.block_lt_of_cell? w _ hx342_3)).trans hx342_3
                replace hx342_4 := (HB.out.cell (World.block_lt_of_cell? w _ hx342_4)).trans hx342_4
                replace hx342_5 := (HB.out.cell (World.block_lt_of_cell? w _ hx342_5)).trans hx342_5
                replace hx342_6 := (HB.out.cell (World.block_lt_of_cell? w _ hx342_6)).trans hx342_6
                replace hx342_7 := (HB.out.cell (World.block_lt_of_cell? w _ hx342_7)).trans hx342_7
                replace hx342_8 := (HB.out.cell (World.block_lt_of_cell? w _ hx342_8)).trans hx342_8
                replace hx342_9 := (HB.out.cell (World.block_lt_of_cell? w _ hx342_9)).trans hx342_9
                replace p342 := eq_true p342
                replace q342 := eq_true q342
                refine start_ (n := 18) (S := fun w' => w'.cell? (ad338.add ((x3_1).toNat * 10)) = some (.int .i64 ((rd_T26 l0 x3_1).f0)) ∧ w'.cell? ⟨(ad338.add ((x3_1).toNat * 10)).block, (ad338.add ((x3_1).toNat * 10)).off + 1, none⟩ = some (.int .i64 ((rd_T26 l0 x3_1).f1)) ∧ w'.cell? ⟨(ad338.add ((x3_1).toNat * 10)).block, (ad338.add ((x3_1).toNat * 10)).off + 2, none⟩ = some (.float .f64 ((rd_T26 l0 x3_1).f2.f0)) ∧ w'.cell? ⟨(ad338.add ((x3_1).toNat * 10)).block, (ad338.add ((x3_1).toNat * 10)).off + 3, none⟩ = some (.float .f64 ((rd_T26 l0 x3_1).f2.f1)) ∧ w'.cell? ⟨(ad338.add ((x3_1).toNat * 10)).block, (ad338.add ((x3_1).toNat * 10)).off + 4, none⟩ = some (.float .f64 ((rd_T26 l0 x3_1).f2.f2)) ∧ w'.cell? ⟨(ad338.add ((x3_1).toNat * 10)).block, (ad338.add ((x3_1).toNat * 10)).off + 5, none⟩ = some (.float .f64 ((rd_T26 l0 x3_1).f2.f3)) ∧ w'.cell? ⟨(ad338.add ((x3_1).toNat * 10)).block, (ad338.add ((x3_1).toNat * 10)).off + 6, none⟩ = some (.float .f64 ((rd_T26 l0 x3_1).f2.f4)) ∧ w'.cell? ⟨(ad338.add ((x3_1).toNat * 10)).block, (ad338.add ((x3_1).toNat * 10)).off + 7, none⟩ = some (.float .f64 ((rd_T26 l0 x3_1).f2.f5)) ∧ w'.cell? ⟨(ad338.add ((x3_1).toNat * 10)).block, (ad338.add ((x3_1).toNat * 10)).off + 8, none⟩ = some (.float .f64 ((rd_T26 l0 x3_1).f2.f6)) ∧ w'.cell? ⟨(ad338.add ((x3_1).toNat * 10)).block, (ad338.add ((x3_1).toNat * 10)).off + 9, none⟩ = some (.float .f64 ((rd_T26 l0 x3_1).f2.f7)) ∧ w'.cell? (ad338.add ((x3_1).toNat * 10)) = some (.int .i64 ((rd_T26 l0 x3_1).f0)) ∧ w'.cell? ⟨(ad338.add ((x3_1).toNat * 10)).block, (ad338.add ((x3_1).toNat * 10)).off + 1, none⟩ = some (.int .i64 ((rd_T26 l0 x3_1).f1)) ∧ w'.cell? ⟨(ad338.add ((x3_1).toNat * 10)).block, (ad338.add ((x3_1).toNat * 10)).off + 2, none⟩ = some (.float .f64 ((rd_T26 l0 x3_1).f2.f0)) ∧ w'.cell? ⟨(ad338.add ((x3_1).toNat * 10)).block, (ad338.add ((x3_1).toNat * 10)).off + 3, none⟩ = some (.float .f64 ((rd_T26 l0 x3_1).f2.f1)) ∧ w'.cell? ⟨(ad338.add ((x3_1).toNat * 10)).block, (ad338.add ((x3_1).toNat * 10)).off + 4, none⟩ = some (.float .f64 ((rd_T26 l0 x3_1).f2.f2)) ∧ w'.cell? ⟨(ad338.add ((x3_1).toNat * 10)).block, (ad338.add ((x3_1).toNat * 10)).off + 5, none⟩ = some (.float .f64 ((rd_T26 l0 x3_1).f2.f3)) ∧ w'.cell? ⟨(ad338.add ((x3_1).toNat * 10)).block, (ad338.add ((x3_1).toNat * 10)).off + 6, none⟩ = some (.float .f64 ((rd_T26 l0 x3_1).f2.f4)) ∧ w'.cell? ⟨(ad338.add ((x3_1).toNat * 10)).block, (ad338.add ((x3_1).toNat * 10)).off + 7, none⟩ = some (.float .f64 ((rd_T26 l0 x3_1).f2.f5)) ∧ w'.cell? ⟨(ad338.add ((x3_1).toNat * 10)).block, (ad338.add ((x3_1).toNat * 10)).off + 8, none⟩ = some (.float .f64 ((rd_T26 l0 x3_1).f2.f6)) ∧ w'.cell? ⟨(ad338.add ((x3_1).toNat * 10)).block, (ad338.add ((x3_1).toNat * 10)).off + 9, none⟩ = some (.float .f64 ((rd_T26 l0 x3_1).f2.f7)) ∧ w'.cell? (ad338.add ((x3_1).toNat * 10)) = some (.int .i64 ((rd_T26 l0 x3_1).f0)) ∧ w'.cell? ⟨(ad338.add ((x3_1).toNat * 10)).block, (ad338.add ((x3_1).toNat * 10)).off + 1, none⟩ = some (.int .i64 ((rd_T26 l0 x3_1).f1)) ∧ w'.cell? ⟨(ad338.add ((x3_1).toNat * 10)).block, (ad338.add ((x3_1).toNat * 10)).off + 2, none⟩ = some (.float .f64 ((rd_T26 l0 x3_1).f2.f0)) ∧ w'.cell? ⟨(ad338.add ((x3_1).toNat * 10)).block, (ad338.add ((x3_1).toNat * 10)).off + 3, none⟩ = some (.float .f64 ((rd_T26 l0 x3_1).f2.f1)) ∧ w'.cell? ⟨(ad338.add ((x3_1).toNat * 10)).block, (ad338.add ((x3_1).toNat * 10)).off + 4, none⟩ = some (.float .f64 ((rd_T26 l0 x3_1).f2.f2)) ∧ w'.cell? ⟨(ad338.add ((x3_1).toNat * 10)).block, (ad338.add ((x3_1).toNat * 10)).off + 5, none⟩ = some (.float .f64 ((rd_T26 l0 x3_1).f2.f3)) ∧ w'.cell? ⟨(ad338.add ((x3_1).toNat * 10)).block, (ad338.add ((x3_1).toNat * 10)).off + 6, none⟩ = some (.float .f64 ((rd_T26 l0 x3_1).f2.f4)) ∧ w'.cell? ⟨(ad338.add ((x3_1).toNat * 10)).block, (ad338.add ((x3_1).toNat * 10)).off + 7, none⟩ = some (.float .f64 ((rd_T26 l0 x3_1).f2.f5)) ∧ w'.cell? ⟨(ad338.add ((x3_1).toNat * 10)).block, (ad338.add ((x3_1).toNat * 10)).off + 8, none⟩ = some (.float .f64 ((rd_T26 l0 x3_1).f2.f6)) ∧ w'.cell? ⟨(ad338.add ((x3_1).toNat * 10)).block, (ad338.add ((x3_1).toNat * 10)).off + 9, none⟩ = some (.float .f64 ((rd_T26 l0 x3_1).f2.f7))) (ds := []) #[false, false, false, false, false, false, false, false, false, false, false, false, false, false, false, false, false, false] (by kernel_rfl) rfl rfl ⟨((HB.out.cell (World.block_lt_of_cell? w _ hw338_0)).trans hw338_0), ((HB.out.cell (World.block_lt_of_cell? w _ hw338_1)).trans hw338_1), ((HB.out.cell (World.block_lt_of_cell? w _ hw338_2)).trans hw338_2), ((HB.out.cell (World.block_lt_of_cell? w _ hw338_3)).trans hw338_3), ((HB.out.cell (World.block_lt_of_cell? w _ hw338_4)).trans hw338_4), ((HB.out.cell (World.block_lt_of_cell? w _ hw338_5)).trans hw338_5), ((HB.out.cell (World.block_lt_of_cell? w _ hw338_6)).trans hw338_6), ((HB.out.cell (World.block_lt_of_cell? w _ hw338_7)).trans hw338_7), ((HB.out.cell (World.block_lt_of_cell? w _ hw338_8)).trans hw338_8), ((HB.out.cell (World.block_lt_of_cell? w _ hw338_9)).trans hw338_9), ((HB.out.cell (World.block_lt_of_cell? w _ hw340_0)).trans hw340_0), ((HB.out.cell (World.block_lt_of_cell? w _ hw340_1)).trans hw340_1), ((HB.out.cell (World.block_lt_of_cell? w _ hw340_2)).trans hw340_2), ((HB.out.cell (World.block_lt_of_cell? w _ hw340_3)).trans hw340_3), ((HB.out.cell (World.block_lt_of_cell? w _ hw340_4)).trans hw340_4), ((HB.out.cell (World.block_lt_of_cell? w _ hw340_5)).trans hw340_5), ((HB.out.cell (World.block_lt_of_cell? w _ hw340_6)).trans hw340_6), ((HB.out.cell (World.block_lt_of_cell? w _ hw340_7)).trans hw340_7), ((HB.out.cell (World.block_lt_of_cell? w _ hw340_8)).trans hw340_8), ((HB.out.cell (World.block_lt_of_cell? w _ hw340_9)).trans hw340_9), ((HB.out.cell (World.block_lt_of_cell? w _ hw342_0)).trans hw342_0), ((HB.out.cell (World.block_lt_of_cell? w _ hw342_1)).trans hw342_1), ((HB.out.cell (World.block_lt_of_cell? w _ hw342_2)).trans hw342_2), ((HB.out.cell (World.block_lt_of_cell? w _ hw342_3)).trans hw342_3), ((HB.out.cell (World.block_lt_of_cell? w _ hw342_4)).trans hw342_4), ((HB.out.cell (World.block_lt_of_cell? w _ hw342_5)).trans hw342_5), ((HB.out.cell (World.block_lt_of_cell? w _ hw342_6)).trans hw342_6), ((HB.out.cell (World.block_lt_of_cell? w _ hw342_7)).trans hw342_7), ((HB.out.cell (World.block_lt_of_cell? w _ hw342_8)).trans hw342_8), ((HB.out.cell (World.block_lt_of_cell? w _ hw342_9)).trans hw342_9)⟩ (fun hHeld => ?_); refine with_tabW arraslaw3_PointHas.tab4 arraslaw3_PointHas.bits4 (fun HT_ HW_ => ?_)
                generalize wc.drew = w11 at HB hx338_0 hx338_1 hx338_2 hx338_3 hx338_4 hx338_5 hx338_6 hx338_7 hx338_8 hx338_9 hx340_0 hx340_1 hx340_2 hx340_3 hx340_4 hx340_5 hx340_6 hx340_7 hx340_8 hx340_9 hx342_0 hx342_1 hx342_2 hx342_3 hx342_4 hx342_5 hx342_6 hx342_7 hx342_8 hx342_9 hHeld ⊢
                refine pure_ (i := 0) (N := some 21) (v := ?_) (a' := ?_) #[true, false, false, false, false, false, false, false, false, false, false, false, false, false, false, false, false, false] rfl rfl (any_of HT_.out (by kernel_rfl)) (fun _ _ _ h => h) (Or.inl ⟨by rfl, ?_⟩) ?_ ?_
                rotate_left
                · intro w'
                  go_simp
                  with_reducible rfl
                rotate_left
                · simp only [Act.put, List.setIfInBounds_toArray, List.set_cons_zero, List.set_cons_succ, i64_w, i32_w]
                  rfl
                refine pure_ (i := 1) (N := some 22) (v := ?_) (a' := ?_) #[true, true, false, false, false, false, false, false, false, false, false, false, false, false, false, false, false, false] rfl rfl (any_of HT_.out (by kernel_rfl)) (fun _ _ _ h => h) (Or.inl ⟨by rfl, ?_⟩) ?_ ?_
                rotate_left
                · intro w'
                  go_simp
                  with_reducible rfl
                rotate_left
                · simp only [Act.put, List.setIfInBounds_toArray, List.set_cons_zero, List.set_cons_succ, i64_w, i32_w]
                  rfl
                refine pure_ (i := 2) (N := some 23) (v := ?_) (a' := ?_) #[true, true, true, false, false, false, false, false, false, false, false, false, false, false, false, false, false, false] rfl rfl (any_of HT_.out (by kernel_rfl)) (fun _ _ _ h => h) (Or.inl ⟨by rfl, ?_⟩) ?_ ?_
                rotate_left
                · intro w'
                  go_simp
                  with_reducible rfl
                rotate_left
                · simp only [Act.put, List.setIfInBounds_toArray, List.set_cons_zero, List.set_cons_succ, i64_w, i32_w]
                  rfl
                refine pure_ (i := 5) (N := some 26) (v := ?_) (a' := ?_) #[true, true, true, false, false, true, false, false, false, false, false, false, false, false, false, false, false, false] rfl rfl (any_of HT_.out (by kernel_rfl)) (fun _ _ _ h => h) (Or.inl ⟨by rfl, ?_⟩) ?_ ?_
                rotate_left
                · intro w'
                  go_simp
                  with_reducible rfl
                rotate_left
                · simp only [Act.put, List.setIfInBounds_toArray, List.set_cons_zero, List.set_cons_succ, i64_w, i32_w]
                  rfl
                refine pure_ (i := 6) (N := some 27) (v := ?_) (a' := ?_) #[true, true, true, false, false, true, true, false, false, false, false, false, false, false, false, false, false, false] rfl rfl (any_of HT_.out (by kernel_rfl)) (fun _ _ _ h => h) (Or.inl ⟨by rfl, ?_⟩) ?_ ?_
                rotate_left
                · intro w'
                  go_simp
                  with_reducible rfl
                rotate_left
                · simp only [Act.put, List.setIfInBounds_toArray, List.set_cons_zero, List.set_cons_succ, i64_w, i32_w]
                  rfl
                refine pure_ (i := 7) (N := some 28) (v := ?_) (a' := ?_) #[true, true, true, false, false, true, true, true, false, false, false, false, false, false, false, false, false, false] rfl rfl (any_of HT_.out (by kernel_rfl)) (fun _ _ _ h => h) (Or.inl ⟨by rfl, ?_⟩) ?_ ?_
                rotate_left
                · intro w'
                  go_simp
                  with_reducible rfl
                rotate_left
                · simp only [Act.put, List.setIfInBounds_toArray, List.set_cons_zero, List.set_cons_succ, i64_w, i32_w]
                  rfl
                refine pure_ (i := 10) (N := some 31) (v := ?_) (a' := ?_) #[true, true, true, false, false, true, true, true, false, false, true, false, false, false, false, false, false, false] rfl rfl (any_of HT_.out (by kernel_rfl)) (fun _ _ _ h => h) (Or.inl ⟨by rfl, ?_⟩) ?_ ?_
                rotate_left
                · intro w'
                  go_simp
                  with_reducible rfl
                rotate_left
                · simp only [Act.put, List.setIfInBounds_toArray, List.set_cons_zero, List.set_cons_succ, i64_w, i32_w]
                  rfl
                refine pure_ (i := 11) (N := some 32) (v := ?_) (a' := ?_) #[true, true, true, false, false, true, true, true, false, false, true, true, false, false, false, false, false, false] rfl rfl (any_of HT_.out (by kernel_rfl)) (fun _ _ _ h => h) (Or.inl ⟨by rfl, ?_⟩) ?_ ?_
                rotate_left
                · intro w'
                  go_simp
                  with_reducible rfl
                rotate_left
                · simp only [Act.put, List.setIfInBounds_toArray, List.set_cons_zero, List.set_cons_succ, i64_w, i32_w]
                  rfl
                refine pure_ (i := 12) (N := some 33) (v := ?_) (a' := ?_) #[true, true, true, false, false, true, true, true, false, false, true, true, true, false, false, false, false, false] rfl rfl (any_of HT_.out (by kernel_rfl)) (fun _ _ _ h => h) (Or.inl ⟨by rfl, ?_⟩) ?_ ?_
                rotate_left
                · intro w'
                  go_simp
                  with_reducible rfl
                rotate_left
                · simp only [Act.put, List.setIfInBounds_toArray, List.set_cons_zero, List.set_cons_succ, i64_w, i32_w]
                  rfl
                refine take_ (i := 3) (N := some 24) (v := ?_) (a' := ?_) #[true, true, true, true, false, true, true, true, false, false, true, true, true, false, false, false, false, false] rfl rfl (take_ofW HT_.out HW_.out (by kernel_rfl)) (fun _ _ _ h => h) (Or.inl ⟨by rfl, ?_⟩) hHeld ?_ ?_
                rotate_left
                · rintro w' ⟨s0, s1, s2, s3, s4, s5, s6, s7, s8, s9, s10, s11, s12, s13, s14, s15, s16, s17, s18, s19, s20, s21, s22, s23, s24, s25, s26, s27, s28, s29⟩
                  go_simp
                  with_reducible rfl
                rotate_left
                · simp only [Act.put, List.setIfInBounds_toArray, List.set_cons_zero, List.set_cons_succ, i64_w, i32_w]
                  rfl
                refine take_ (i := 8) (N := some 29) (v := ?_) (a' := ?_) #[true, true, true, true, false, true, true, true, true, false, true, true, true, false, false, false, false, false] rfl rfl (take_ofW HT_.out HW_.out (by kernel_rfl)) (fun _ _ _ h => h) (Or.inl ⟨by rfl, ?_⟩) hHeld ?_ ?_
                rotate_left
                · rintro w' ⟨s0, s1, s2, s3, s4, s5, s6, s7, s8, s9, s10, s11, s12, s13, s14, s15, s16, s17, s18, s19, s20, s21, s22, s23, s24, s25, s26, s27, s28, s29⟩
                  go_simp
                  with_reducible rfl
                rotate_left
                · simp only [Act.put, List.setIfInBounds_toArray, List.set_cons_zero, List.set_cons_succ, i64_w, i32_w]
                  rfl
                refine take_ (i := 13) (N := some 34) (v := ?_) (a' := ?_) #[true, true, true, true, false, true, true, true, true, false, true, true, true, true, false, false, false, false] rfl rfl (take_ofW HT_.out HW_.out (by kernel_rfl)) (fun _ _ _ h => h) (Or.inl ⟨by rfl, ?_⟩) hHeld ?_ ?_
                rotate_left
                · rintro w' ⟨s0, s1, s2, s3, s4, s5, s6, s7, s8, s9, s10, s11, s12, s13, s14, s15, s16, s17, s18, s19, s20, s21, s22, s23, s24, s25, s26, s27, s28, s29⟩
                  go_simp
                  with_reducible rfl
                rotate_left
                · simp only [Act.put, List.setIfInBounds_toArray, List.set_cons_zero, List.set_cons_succ, i64_w, i32_w]
                  rfl
                refine one_ (i := 4) (N := some 25) #[true, true, true, true, true, true, true, true, true, false, true, true, true, true, false, false, false, false] rfl rfl (one_of HT_.out (by kernel_rfl)) (by decide) (fun K hK => ?_)
                refine goes_ Try.func14 (by kernel_rfl) rfl #[.agg #[.int .i64 ((rd_T26 l0 x3_1).f0), .int .i64 ((rd_T26 l0 x3_1).f1), .float .f64 ((rd_T26 l0 x3_1).f2.f0), .float .f64 ((rd_T26 l0 x3_1).f2.f1), .float .f64 ((rd_T26 l0 x3_1).f2.f2), .float .f64 ((rd_T26 l0 x3_1).f2.f3), .float .f64 ((rd_T26 l0 x3_1).f2.f4), .float .f64 ((rd_T26 l0 x3_1).f2.f5), .float .f64 ((rd_T26 l0 x3_1).f2.f6), .float .f64 ((rd_T26 l0 x3_1).f2.f7)], .int .i64 0] (by rfl) rfl rfl (by (try simp only [List.map_toArray, List.map_cons, List.map_nil]); first | done | rfl | (simp only [List.length_drop, List.length_take]; rfl)) ?_
                with_reducible refine (arraslaw3_Ask_c.calls ((rd_T26 l0 x3_1).f0) ((rd_T26 l0 x3_1).f1) ((rd_T26 l0 x3_1).f2.f0) ((rd_T26 l0 x3_1).f2.f1) ((rd_T26 l0 x3_1).f2.f2) ((rd_T26 l0 x3_1).f2.f3) ((rd_T26 l0 x3_1).f2.f4) ((rd_T26 l0 x3_1).f2.f5) ((rd_T26 l0 x3_1).f2.f6) ((rd_T26 l0 x3_1).f2.f7) 0 t339 _ A7.out).mono ?_
                rintro e w12 ⟨rfl, hb⟩
                refine ⟨_, rfl, ?_⟩
                have n0_ := Aside0.mk (below_step (by repeat (first | (with_reducible first | exact HB.out | apply below_alloc | apply pw_below_drewN | apply below_drew1) | exact HB.out)) hb)
                clear HB
                have HB := n0_
                clear n0_
                (try clear hb)
                (try clear hb2)
                (try clear hk)
                (try clear hi)
                refine hK.out _ _ ⟨((HB.out.cell (World.block_lt_of_cell? w _ hw338_0)).trans hw338_0), ((HB.out.cell (World.block_lt_of_cell? w _ hw338_1)).trans hw338_1), ((HB.out.cell (World.block_lt_of_cell? w _ hw338_2)).trans hw338_2), ((HB.out.cell (World.block_lt_of_cell? w _ hw338_3)).trans hw338_3), ((HB.out.cell (World.block_lt_of_cell? w _ hw338_4)).trans hw338_4), ((HB.out.cell (World.block_lt_of_cell? w _ hw338_5)).trans hw338_5), ((HB.out.cell (World.block_lt_of_cell? w _ hw338_6)).trans hw338_6), ((HB.out.cell (World.block_lt_of_cell? w _ hw338_7)).trans hw338_7), ((HB.out.cell (World.block_lt_of_cell? w _ hw338_8)).trans hw338_8), ((HB.out.cell (World.block_lt_of_cell? w _ hw338_9)).trans hw338_9), ((HB.out.cell (World.block_lt_of_cell? w _ hw340_0)).trans hw340_0), ((HB.out.cell (World.block_lt_of_cell? w _ hw340_1)).trans hw340_1), ((HB.out.cell (World.block_lt_of_cell? w _ hw340_2)).trans hw340_2), ((HB.out.cell (World.block_lt_of_cell? w _ hw340_3)).trans hw340_3), ((HB.out.cell (World.block_lt_of_cell? w _ hw340_4)).trans hw340_4), ((HB.out.cell (World.block_lt_of_cell? w _ hw340_5)).trans hw340_5), ((HB.out.cell (World.block_lt_of_cell? w _ hw340_6)).trans hw340_6), ((HB.out.cell (World.block_lt_of_cell? w _ hw340_7)).trans hw340_7), ((HB.out.cell (World.block_lt_of_cell? w _ hw340_8)).trans hw340_8), ((HB.out.cell (World.block_lt_of_cell? w _ hw340_9)).trans hw340_9), ((HB.out.cell (World.block_lt_of_cell? w _ hw342_0)).trans hw342_0), ((HB.out.cell (World.block_lt_of_cell? w _ hw342_1)).trans hw342_1), ((HB.out.cell (World.block_lt_of_cell? w _ hw342_2)).trans hw342_2), ((HB.out.cell (World.block_lt_of_cell? w _ hw342_3)).trans hw342_3), ((HB.out.cell (World.block_lt_of_cell? w _ hw342_4)).trans hw342_4), ((HB.out.cell (World.block_lt_of_cell? w _ hw342_5)).trans hw342_5), ((HB.out.cell (World.block_lt_of_cell? w _ hw342_6)).trans hw342_6), ((HB.out.cell (World.block_lt_of_cell? w _ hw342_7)).trans hw342_7), ((HB.out.cell (World.block_lt_of_cell? w _ hw342_8)).trans hw342_8), ((HB.out.cell (World.block_lt_of_cell? w _ hw342_9)).trans hw342_9)⟩ (fun hHeld => ?_)
                clear hK K
                refine norm_ (a' := ?_) ?_ ?_
                rotate_left
                · show Act.put _ (some 25) _ = _
                  simp only [Act.put, List.setIfInBounds_toArray, List.set_cons_zero, List.set_cons_succ, i64_w, i32_w]
                  rfl
                refine one_ (i := 9) (N := some 30) #[true, true, true, true, true, true, true, true, true, true, true, true, true, true, false, false, false, false] rfl rfl (one_of HT_.out (by kernel_rfl)) (by decide) (fun K hK => ?_)
                refine goes_ Try.func14 (by kernel_rfl) rfl #[.agg #[.int .i64 ((rd_T26 l0 x3_1).f0), .int .i64 ((rd_T26 l0 x3_1).f1), .float .f64 ((rd_T26 l0 x3_1).f2.f0), .float .f64 ((rd_T26 l0 x3_1).f2.f1), .float .f64 ((rd_T26 l0 x3_1).f2.f2), .float .f64 ((rd_T26 l0 x3_1).f2.f3), .float .f64 ((rd_T26 l0 x3_1).f2.f4), .float .f64 ((rd_T26 l0 x3_1).f2.f5), .float .f64 ((rd_T26 l0 x3_1).f2.f6), .float .f64 ((rd_T26 l0 x3_1).f2.f7)], .int .i64 1] (by rfl) rfl rfl (by (try simp only [List.map_toArray, List.map_cons, List.map_nil]); first | done | rfl | (simp only [List.length_drop, List.length_take]; rfl)) ?_
                with_reducible refine (arraslaw3_Ask_c.calls ((rd_T26 l0 x3_1).f0) ((rd_T26 l0 x3_1).f1) ((rd_T26 l0 x3_1).f2.f0) ((rd_T26 l0 x3_1).f2.f1) ((rd_T26 l0 x3_1).f2.f2) ((rd_T26 l0 x3_1).f2.f3) ((rd_T26 l0 x3_1).f2.f4) ((rd_T26 l0 x3_1).f2.f5) ((rd_T26 l0 x3_1).f2.f6) ((rd_T26 l0 x3_1).f2.f7) 1 t341 _ A8.out).mono ?_
                rintro e w13 ⟨rfl, hb⟩
                refine ⟨_, rfl, ?_⟩
                have n0_ := Aside0.mk (below_step (by repeat (first | (with_reducible first | exact HB.out | apply below_alloc | apply pw_below_drewN | apply below_drew1) | exact HB.out)) hb)
                clear HB
                have HB := n0_
                clear n0_
                (try clear hb)
                (try clear hb2)
                (try clear hk)
                (try clear hi)
                refine hK.out _ _ ⟨((HB.out.cell (World.block_lt_of_cell? w _ hw338_0)).trans hw338_0), ((HB.out.cell (World.block_lt_of_cell? w _ hw338_1)).trans hw338_1), ((HB.out.cell (World.block_lt_of_cell? w _ hw338_2)).trans hw338_2), ((HB.out.cell (World.block_lt_of_cell? w _ hw338_3)).trans hw338_3), ((HB.out.cell (World.block_lt_of_cell? w _ hw338_4)).trans hw338_4), ((HB.out.cell (World.block_lt_of_cell? w _ hw338_5)).trans hw338_5), ((HB.out.cell (World.block_lt_of_cell? w _ hw338_6)).trans hw338_6), ((HB.out.cell (World.block_lt_of_cell? w _ hw338_7)).trans hw338_7), ((HB.out.cell (World.block_lt_of_cell? w _ hw338_8)).trans hw338_8), ((HB.out.cell (World.block_lt_of_cell? w _ hw338_9)).trans hw338_9), ((HB.out.cell (World.block_lt_of_cell? w _ hw340_0)).trans hw340_0), ((HB.out.cell (World.block_lt_of_cell? w _ hw340_1)).trans hw340_1), ((HB.out.cell (World.block_lt_of_cell? w _ hw340_2)).trans hw340_2), ((HB.out.cell (World.block_lt_of_cell? w _ hw340_3)).trans hw340_3), ((HB.out.cell (World.block_lt_of_cell? w _ hw340_4)).trans hw340_4), ((HB.out.cell (World.block_lt_of_cell? w _ hw340_5)).trans hw340_5), ((HB.out.cell (World.block_lt_of_cell? w _ hw340_6)).trans hw340_6), ((HB.out.cell (World.block_lt_of_cell? w _ hw340_7)).trans hw340_7), ((HB.out.cell (World.block_lt_of_cell? w _ hw340_8)).trans hw340_8), ((HB.out.cell (World.block_lt_of_cell? w _ hw340_9)).trans hw340_9), ((HB.out.cell (World.block_lt_of_cell? w _ hw342_0)).trans hw342_0), ((HB.out.cell (World.block_lt_of_cell? w _ hw342_1)).trans hw342_1), ((HB.out.cell (World.block_lt_of_cell? w _ hw342_2)).trans hw342_2), ((HB.out.cell (World.block_lt_of_cell? w _ hw342_3)).trans hw342_3), ((HB.out.cell (World.block_lt_of_cell? w _ hw342_4)).trans hw342_4), ((HB.out.cell (World.block_lt_of_cell? w _ hw342_5)).trans hw342_5), ((HB.out.cell (World.block_lt_of_cell? w _ hw342_6)).trans hw342_6), ((HB.out.cell (World.block_lt_of_cell? w _ hw342_7)).trans hw342_7), ((HB.out.cell (World.block_lt_of_cell? w _ hw342_8)).trans hw342_8), ((HB.out.cell (World.block_lt_of_cell? w _ hw342_9)).trans hw342_9)⟩ (fun hHeld => ?_)
                clear hK K
                refine norm_ (a' := ?_) ?_ ?_
                rotate_left
                · show Act.put _ (some 30) _ = _
                  simp only [Act.put, List.setIfInBounds_toArray, List.set_cons_zero, List.set_cons_succ, i64_w, i32_w]
                  rfl
                refine one_ (i := 14) (N := some 35) #[true, true, true, true, true, true, true, true, true, true, true, true, true, true, true, false, false, false] rfl rfl (one_of HT_.out (by kernel_rfl)) (by decide) (fun K hK => ?_)
                refine goes_ Try.func14 (by kernel_rfl) rfl #[.agg #[.int .i64 ((rd_T26 l0 x3_1).f0), .int .i64 ((rd_T26 l0 x3_1).f1), .float .f64 ((rd_T26 l0 x3_1).f2.f0), .float .f64 ((rd_T26 l0 x3_1).f2.f1), .float .f64 ((rd_T26 l0 x3_1).f2.f2), .float .f64 ((rd_T26 l0 x3_1).f2.f3), .float .f64 ((rd_T26 l0 x3_1).f2.f4), .float .f64 ((rd_T26 l0 x3_1).f2.f5), .float .f64 ((rd_T26 l0 x3_1).f2.f6), .float .f64 ((rd_T26 l0 x3_1).f2.f7)], .int .i64 2] (by rfl) rfl rfl (by (try simp only [List.map_toArray, List.map_cons, List.map_nil]); first | done | rfl | (simp only [List.length_drop, List.length_take]; rfl)) ?_
                with_reducible refine (arraslaw3_Ask_c.calls ((rd_T26 l0 x3_1).f0) ((rd_T26 l0 x3_1).f1) ((rd_T26 l0 x3_1).f2.f0) ((rd_T26 l0 x3_1).f2.f1) ((rd_T26 l0 x3_1).f2.f2) ((rd_T26 l0 x3_1).f2.f3) ((rd_T26 l0 x3_1).f2.f4) ((rd_T26 l0 x3_1).f2.f5) ((rd_T26 l0 x3_1).f2.f6) ((rd_T26 l0 x3_1).f2.f7) 2 t343 _ A9.out).mono ?_
                rintro e w14 ⟨rfl, hb⟩
                refine ⟨_, rfl, ?_⟩
                have n0_ := Aside0.mk (below_step (by repeat (first | (with_reducible first | exact HB.out | apply below_alloc | apply pw_below_drewN | apply below_drew1) | exact HB.out)) hb)
                clear HB
                have HB := n0_
                clear n0_
                (try clear hb)
                (try clear hb2)
                (try clear hk)
                (try clear hi)
                refine hK.out _ _ ⟨((HB.out.cell (World.block_lt_of_cell? w _ hw338_0)).trans hw338_0), ((HB.out.cell (World.block_lt_of_cell? w _ hw338_1)).trans hw338_1), ((HB.out.cell (World.block_lt_of_cell? w _ hw338_2)).trans hw338_2), ((HB.out.cell (World.block_lt_of_cell? w _ hw338_3)).trans hw338_3), ((HB.out.cell (World.block_lt_of_cell? w _ hw338_4)).trans hw338_4), ((HB.out.cell (World.block_lt_of_cell? w _ hw338_5)).trans hw338_5), ((HB.out.cell (World.block_lt_of_cell? w _ hw338_6)).trans hw338_6), ((HB.out.cell (World.block_lt_of_cell? w _ hw338_7)).trans hw338_7), ((HB.out.cell (World.block_lt_of_cell? w _ hw338_8)).trans hw338_8), ((HB.out.cell (World.block_lt_of_cell? w _ hw338_9)).trans hw338_9), ((HB.out.cell (World.block_lt_of_cell? w _ hw340_0)).trans hw340_0), ((HB.out.cell (World.block_lt_of_cell? w _ hw340_1)).trans hw340_1), ((HB.out.cell (World.block_lt_of_cell? w _ hw340_2)).trans hw340_2), ((HB.out.cell (World.block_lt_of_cell? w _ hw340_3)).trans hw340_3), ((HB.out.cell (World.block_lt_of_cell? w _ hw340_4)).trans hw340_4), ((HB.out.cell (World.block_lt_of_cell? w _ hw340_5)).trans hw340_5), ((HB.out.cell (World.block_lt_of_cell? w _ hw340_6)).trans hw340_6), ((HB.out.cell (World.block_lt_of_cell? w _ hw340_7)).trans hw340_7), ((HB.out.cell (World.block_lt_of_cell? w _ hw340_8)).trans hw340_8), ((HB.out.cell (World.block_lt_of_cell? w _ hw340_9)).trans hw340_9), ((HB.out.cell (World.block_lt_of_cell? w _ hw342_0)).trans hw342_0), ((HB.out.cell (World.block_lt_of_cell? w _ hw342_1)).trans hw342_1), ((HB.out.cell (World.block_lt_of_cell? w _ hw342_2)).trans hw342_2), ((HB.out.cell (World.block_lt_of_cell? w _ hw342_3)).trans hw342_3), ((HB.out.cell (World.block_lt_of_cell? w _ hw342_4)).trans hw342_4), ((HB.out.cell (World.block_lt_of_cell? w _ hw342_5)).trans hw342_5), ((HB.out.cell (World.block_lt_of_cell? w _ hw342_6)).trans hw342_6), ((HB.out.cell (World.block_lt_of_cell? w _ hw342_7)).trans hw342_7), ((HB.out.cell (World.block_lt_of_cell? w _ hw342_8)).trans hw342_8), ((HB.out.cell (World.block_lt_of_cell? w _ hw342_9)).trans hw342_9)⟩ (fun hHeld => ?_)
                clear hK K
                refine norm_ (a' := ?_) ?_ ?_
                rotate_left
                · show Act.put _ (some 35) _ = _
                  simp only [Act.put, List.setIfInBounds_toArray, List.set_cons_zero, List.set_cons_succ, i64_w, i32_w]
                  rfl
                refine pure_ (i := 15) (N := some 4) (v := ?_) (a' := ?_) #[true, true, true, true, true, true, true, true, true, true, true, true, true, true, true, true, false, false] rfl rfl (any_of HT_.out (by kernel_rfl)) (fun _ _ _ h => h) (Or.inl ⟨by rfl, ?_⟩) ?_ ?_
                rotate_left
                · intro w'
                  go_simp
                  with_reducible rfl
                rotate_left
                · simp only [Act.put, List.setIfInBounds_toArray, List.set_cons_zero, List.set_cons_succ, i64_w, i32_w]
                  rfl
                refine pure_ (i := 16) (N := some 5) (v := ?_) (a' := ?_) #[true, true, true, true, true, true, true, true, true, true, true, true, true, true, true, true, true, false] rfl rfl (any_of HT_.out (by kernel_rfl)) (fun _ _ _ h => h) (Or.inl ⟨by rfl, ?_⟩) ?_ ?_
                rotate_left
                · intro w'
                  go_simp
                  with_reducible rfl
                rotate_left
                · simp only [Act.put, List.setIfInBounds_toArray, List.set_cons_zero, List.set_cons_succ, i64_w, i32_w]
                  rfl
                refine pure_ (i := 17) (N := some 6) (v := ?_) (a' := ?_) #[true, true, true, true, true, true, true, true, true, true, true, true, true, true, true, true, true, true] rfl rfl (any_of HT_.out (by kernel_rfl)) (fun _ _ _ h => h) (Or.inl ⟨by rfl, ?_⟩) ?_ ?_
                rotate_left
                · intro w'
                  go_simp
                  with_reducible rfl
                rotate_left
                · simp only [Act.put, List.setIfInBounds_toArray, List.set_cons_zero, List.set_cons_succ, i64_w, i32_w]
                  rfl
                refine done_ (done_of HT_.out (by kernel_rfl)) ?_
                go_upto_region 6 with (fail)
                go_cut [42] (fun v42 wc => ∃ (kq : Nat) (x42_9 : Bool), v42 = .bool x42_9 ∧ Aside0 (arraslaw3_PointHas.j2 kq l0 x3_1 t339 t341 t343 1 false x42_9 = some r) ∧ Aside0 (kq ≤ kj1) ∧ Aside0 (Below w.heap.size w wc))
                case first =>
                  have H := HC10.out
                  clear HC10
                  replace H := Option.bind_eq_some_iff.mp H
                  obtain ⟨t344, A150, H⟩ := H
                  replace H : (if t344 = true then ((arrasref3_Point.f t343).bind fun t345 => (arraslaw3_PointHas.j2 kj1 l0 x3_1 t339 t341 t343 1 false t345)) else (arraslaw3_PointHas.j2 kj1 l0 x3_1 t339 t341 t343 1 false false)) = some r := H
                  have A15 := Aside0.mk A150
                  clear A150
                  by_cases c16 : t344 = true
                  · subst c16
                    have H1 : ((arrasref3_Point.f t343).bind fun t345 => (arraslaw3_PointHas.j2 kj1 l0 x3_1 t339 t341 t343 1 false t345)) = some r := by rw [if_pos rfl] at H; exact H
                    clear H
                    have H := H1
                    clear H1
                    replace H := Option.bind_eq_some_iff.mp H
                    obtain ⟨t345, A170, H⟩ := H
                    replace H : (arraslaw3_PointHas.j2 kj1 l0 x3_1 t339 t341 t343 1 false t345) = some r := H
                    have A17 := Aside0.mk A170
                    clear A170
                    have H' := Aside0.mk H
                    clear H
                    go_wp2_with (first | ((with_reducible refine gate_callee (f := 24) rfl ?_); refine goesL_ (some 38) rfl rfl Try.func24 (by kernel_rfl) rfl #[.complex .f64 t339.1 t339.2, .complex .f64 t341.1 t341.2] rfl (by (try simp only [List.map_toArray, List.map_cons, List.map_nil]); first | done | rfl | (simp only [List.length_drop, List.length_take]; rfl)) ?_; (with_reducible refine (arrasref3_Box.calls t339 t341 true _ A15.out).mono ?_); rintro e w' ⟨rfl, ⟨nd, rfl⟩⟩; refine ⟨_, rfl, ?_⟩) | (go_at_call 16; (with_reducible refine (arrasref3_Point.calls t343 t345 _ A17.out).mono ?_); rintro e w' ⟨rfl, ⟨nd, rfl⟩⟩))
                    go_meet
                    case rel => exact ⟨_, (t345), (by first | rfl | (simp; done) | (simp [*]; done)), H', ⟨by have := HK1.out; have := HJ1.out; first | omega | exact Nat.le_refl _⟩, ⟨by repeat (first | (with_reducible first | exact HB.out | apply below_alloc | apply pw_below_drewN | apply below_drew1) | exact HB.out)⟩⟩
                  · replace c16 := Bool.eq_false_iff.mpr c16
                    subst c16
                    have H1 : (arraslaw3_PointHas.j2 kj1 l0 x3_1 t339 t341 t343 1 false false) = some r := by rw [if_neg (show ¬ (false = true) by decide)] at H; exact H
                    clear H
                    have H := H1
                    clear H1
                    have H' := Aside0.mk H
                    clear H
                    go_wp2_with (first | ((with_reducible refine gate_callee (f := 24) rfl ?_); refine goesL_ (some 38) rfl rfl Try.func24 (by kernel_rfl) rfl #[.complex .f64 t339.1 t339.2, .complex .f64 t341.1 t341.2] rfl (by (try simp only [List.map_toArray, List.map_cons, List.map_nil]); first | done | rfl | (simp only [List.length_drop, List.length_take]; rfl)) ?_; (with_reducible refine (arrasref3_Box.calls t339 t341 false _ A15.out).mono ?_); rintro e w' ⟨rfl, ⟨nd, rfl⟩⟩; refine ⟨_, rfl, ?_⟩))
                    go_meet
                    case rel => exact ⟨_, (false), (by first | rfl | (simp; done) | (simp [*]; done)), H', ⟨by have := HK1.out; have := HJ1.out; first | omega | exact Nat.le_refl _⟩, ⟨by repeat (first | (with_reducible first | exact HB.out | apply below_alloc | apply pw_below_drewN | apply below_drew1) | exact HB.out)⟩⟩
                case rest =>
                  clear HC10
                  try clear c1
                  try clear c2
                  try clear p2
                  try clear c3
                  try clear c3b0
                  try clear p3
                  try clear q3
                  try clear hx3
                  try clear c4
                  try clear c5
                  try clear c5b0
                  try clear c6
                  try clear c6b0
                  try clear c14
                  try clear c16
                  try clear hx338_0
                  try clear hx338_1
                  try clear hx338_2
                  try clear hx338_3
                  try clear hx338_4
                  try clear hx338_5
                  try clear hx338_6
                  try clear hx338_7
                  try clear hx338_8
                  try clear hx338_9
                  try clear hx340_0
                  try clear hx340_1
                  try clear hx340_2
                  try clear hx340_3
                  try clear hx340_4
                  try clear hx340_5
                  try clear hx340_6
                  try clear hx340_7
                  try clear hx340_8
                  try clear hx340_9
                  try clear hx342_0
                  try clear hx342_1
                  try clear hx342_2
                  try clear hx342_3
                  try clear hx342_4
                  try clear hx342_5
                  try clear hx342_6
                  try clear hx342_7
                  try clear hx342_8
                  try clear hx342_9
                  try clear p2
                  try clear p338
                  try clear p340
                  try clear p342
                  try clear q338
                  try clear q340
                  try clear q342
                  obtain ⟨kq, x42_9, rfl, HA, HJ9, HB⟩ := hcut
                  cases kq with
                  | zero => exact absurd HA.out (by simp [arraslaw3_PointHas.j2])
                  | succ kj9 =>
                    have H := HA.out
                    clear HA
                    simp only [arraslaw3_PointHas.j2] at H
                    have HC18 := Aside0.mk H
                    clear H
                    go_upto_if 42 with (fail)
                    go_cut [7, 8] (fun v7 v8 wc => ∃ (kq : Nat) (x7_17 : Int) (x8_17 : Bool), v7 = .int .i64 x7_17 ∧ v8 = .bool x8_17 ∧ Aside0 (arraslaw3_PointHas.j3 kq l0 x3_1 t339 t341 t343 x7_17 x8_17 = some r) ∧ Aside0 (kq ≤ kj9) ∧ Aside0 (Below w.heap.size w wc))
                    case first =>
                      have H := HC18.out
                      clear HC18
                      by_cases c19 : x42_9 = true
                      · subst c19
                        have H1 : ((arrasref3_Has.f t339 t341 t343).bind fun t346 => (arraslaw3_PointHas.j3 kj9 l0 x3_1 t339 t341 t343 0 t346)) = some r := by rw [if_pos rfl] at H; exact H
                        clear H
                        have H := H1
                        clear H1
                        replace H := Option.bind_eq_some_iff.mp H
                        obtain ⟨t346, A200, H⟩ := H
                        replace H : (arraslaw3_PointHas.j3 kj9 l0 x3_1 t339 t341 t343 0 t346) = some r := H
                        have A20 := Aside0.mk A200
                        clear A200
                        have H' := Aside0.mk H
                        clear H
                        go_wp2_with (first | ((with_reducible refine gate_callee (f := 25) rfl ?_); refine goesL_ (some 46) rfl rfl Try.func25 (by kernel_rfl) rfl #[.complex .f64 t339.1 t339.2, .complex .f64 t341.1 t341.2, .complex .f64 t343.1 t343.2] rfl (by (try simp only [List.map_toArray, List.map_cons, List.map_nil]); first | done | rfl | (simp only [List.length_drop, List.length_take]; rfl)) ?_; (with_reducible refine (arrasref3_Has.calls t339 t341 t343 t346 _ A20.out).mono ?_); rintro e w21 ⟨rfl, hb⟩; refine ⟨_, rfl, ?_⟩; have n0_ := Aside0.mk (below_step (by repeat (first | (with_reducible first | exact HB.out | apply below_alloc | apply pw_below_drewN | apply below_drew1) | exact HB.out)) hb); clear HB; have HB := n0_; clear n0_; (try clear hb); (try clear hb2); (try clear hk); (try clear hi)))
                        go_meet
                        case rel => exact ⟨_, (0), (t346), (by first | rfl | (simp; done) | (simp [*]; done)), (by first | rfl | (simp; done) | (simp [*]; done)), H', ⟨by have := HK1.out; have := HJ1.out; have := HJ9.out; first | omega | exact Nat.le_refl _⟩, ⟨by repeat (first | (with_reducible first | exact HB.out | apply below_alloc | apply pw_below_drewN | apply below_drew1) | exact HB.out)⟩⟩
                      · replace c19 := Bool.eq_false_iff.mpr c19
                        subst c19
                        have H1 : (arraslaw3_PointHas.j3 kj9 l0 x3_1 t339 t341 t343 1 false) = some r := by rw [if_neg (show ¬ (false = true) by decide)] at H; exact H
                        clear H
                        have H := H1
                        clear H1
                        have H' := Aside0.mk H
                        clear H
                        go_wp2
                        go_meet
                        case rel => exact ⟨_, (1), (false), (by first | rfl | (simp; done) | (simp [*]; done)), (by first | rfl | (simp; done) | (simp [*]; done)), H', ⟨by have := HK1.out; have := HJ1.out; have := HJ9.out; first | omega | exact Nat.le_refl _⟩, ⟨by repeat (first | (with_reducible first | exact HB.out | apply below_alloc | apply pw_below_drewN | apply below_drew1) | exact HB.out)⟩⟩
                    case rest =>
                      clear HC18
                      try clear c1
                      try clear c2
                      try clear p2
                      try clear c3
                      try clear c3b0
                      try clear p3
                      try clear q3
                      try clear hx3
                      try clear c4
                      try clear c5
                      try clear c5b0
                      try clear c6
                      try clear c6b0
                      try clear c14
                      try clear c16
                      try clear c19
                      try clear hx338_0
                      try clear hx338_1
                      try clear hx338_2
                      try clear hx338_3
                      try clear hx338_4
                      try clear hx338_5
                      try clear hx338_6
                      try clear hx338_7
                      try clear hx338_8
                      try clear hx338_9
                      try clear hx340_0
                      try clear hx340_1
                      try clear hx340_2
                      try clear hx340_3
                      try clear hx340_4
                      try clear hx340_5
                      try clear hx340_6
                      try clear hx340_7
                      try clear hx340_8
                      try clear hx340_9
                      try clear hx342_0
                      try clear hx342_1
                      try clear hx342_2
                      try clear hx342_3
                      try clear hx342_4
                      try clear hx342_5
                      try clear hx342_6
                      try clear hx342_7
                      try clear hx342_8
                      try clear hx342_9
                      try clear p2
                      try clear p3
                      try clear p338
                      try clear p340
                      try clear p342
                      try clear q3
                      try clear q338
                      try clear q340
                      try clear q342
                      obtain ⟨kq, x7_17, x8_17, rfl, rfl, HA, HJ17, HB⟩ := hcut
                      cases kq with
                      | zero => exact absurd HA.out (by simp [arraslaw3_PointHas.j3])
                      | succ kj17 =>
                        have H := HA.out
                        clear HA
                        simp only [arraslaw3_PointHas.j3] at H
                        replace H := Option.bind_eq_some_iff.mp H
                        obtain ⟨⟨t347, t348⟩, A220, H⟩ := H
                        replace H : ((arraslaw3_num.f t348).bind fun t349 => (if t349 = x7_17 then (if (t347 != x8_17) = true then (some false) else (arraslaw3_PointHas.l0 kj17 l0 (wrap64 (x3_1 + 1)))) else (some false))) = some r := H
                        have A22 := Aside0.mk A220
                        clear A220
                        replace H := Option.bind_eq_some_iff.mp H
                        obtain ⟨t349, A230, H⟩ := H
                        replace H : (if t349 = x7_17 then (if (t347 != x8_17) = true then (some false) else (arraslaw3_PointHas.l0 kj17 l0 (wrap64 (x3_1 + 1)))) else (some false)) = some r := H
                        have A23 := Aside0.mk A230
                        clear A230
                        by_cases c24 : t349 = x7_17
                        · rw [if_pos c24] at H
                          have c24b0 : (t349 == x7_17) = true := beq_iff_eq.mpr c24
                          have c24b1 : (t349 != x7_17) = false := bne_eq_false_iff_eq.mpr c24
                          clear c24
                          by_cases c25 : (t347 != x8_17) = true
                          · rw [if_pos c25] at H
                            have c25b0 : (t347 != x8_17) = true := c25
                            (try (have c25b1 : decide (t347 = x8_17) = false := by simpa using c25))
                            (try (have c25b2 : (t347 == x8_17) = false := by simpa using c25))
                            (try (have c25b3 : ¬ (t347 = x8_17) := by simpa using c25))
                            clear c25
                            obtain rfl := Option.some.inj H
                            go_wp2_with (first | ((with_reducible refine gate_callee (f := 26) rfl ?_); refine goesL_ (some 51) rfl rfl Try.func26 (by kernel_rfl) rfl #[.complex .f64 t339.1 t339.2, .complex .f64 t341.1 t341.2, .complex .f64 t343.1 t343.2] rfl (by (try simp only [List.map_toArray, List.map_cons, List.map_nil]); first | done | rfl | (simp only [List.length_drop, List.length_take]; rfl)) ?_; (with_reducible refine (point_Has.calls kj17 t339 t341 t343 t347 t348 _ A22.out).mono ?_); rintro e w26 ⟨rfl, hb⟩; refine ⟨_, rfl, ?_⟩; have n0_ := Aside0.mk (below_step (by repeat (first | (with_reducible first | exact HB.out | apply below_alloc | apply pw_below_drewN | apply below_drew1) | exact HB.out)) hb); clear HB; have HB := n0_; clear n0_; (try clear hb); (try clear hb2); (try clear hk); (try clear hi)) | ((with_reducible refine gate_callee (f := 17) rfl ?_); refine goesL_ (some 55) rfl rfl Try.func17 (by kernel_rfl) rfl #[.int .i64 t348] rfl (by (try simp only [List.map_toArray, List.map_cons, List.map_nil]); first | done | rfl | (simp only [List.length_drop, List.length_take]; rfl)) ?_; (with_reducible refine (arraslaw3_num.calls t348 t349 _ A23.out).mono ?_); rintro e w' ⟨rfl, ⟨nd, rfl⟩⟩; refine ⟨_, rfl, ?_⟩))
                            go_ret
                            exact ⟨by first | rfl | (simp [errW_none, errW_some] <;> rfl) | (simp [*, errW_none, errW_some] <;> rfl), by repeat (first | (with_reducible first | exact HB.out | apply below_alloc | apply pw_below_drewN | apply below_drew1) | exact HB.out)⟩
                          · rw [if_neg c25] at H
                            have c25b0 : (t347 != x8_17) = false := by simpa using c25
                            (try (have c25b1 : decide (t347 = x8_17) = true := by simpa using c25))
                            (try (have c25b2 : (t347 == x8_17) = true := by simpa using c25))
                            clear c25
                            have H' := Aside0.mk H
                            clear H
                            go_wp2_with (first | ((with_reducible refine gate_callee (f := 26) rfl ?_); refine goesL_ (some 51) rfl rfl Try.func26 (by kernel_rfl) rfl #[.complex .f64 t339.1 t339.2, .complex .f64 t341.1 t341.2, .complex .f64 t343.1 t343.2] rfl (by (try simp only [List.map_toArray, List.map_cons, List.map_nil]); first | done | rfl | (simp only [List.length_drop, List.length_take]; rfl)) ?_; (with_reducible refine (point_Has.calls kj17 t339 t341 t343 t347 t348 _ A22.out).mono ?_); rintro e w27 ⟨rfl, hb⟩; refine ⟨_, rfl, ?_⟩; have n0_ := Aside0.mk (below_step (by repeat (first | (with_reducible first | exact HB.out | apply below_alloc | apply pw_below_drewN | apply below_drew1) | exact HB.out)) hb); clear HB; have HB := n0_; clear n0_; (try clear hb); (try clear hb2); (try clear hk); (try clear hi)) | ((with_reducible refine gate_callee (f := 17) rfl ?_); refine goesL_ (some 55) rfl rfl Try.func17 (by kernel_rfl) rfl #[.int .i64 t348] rfl (by (try simp only [List.map_toArray, List.map_cons, List.map_nil]); first | done | rfl | (simp only [List.length_drop, List.length_take]; rfl)) ?_; (with_reducible refine (arraslaw3_num.calls t348 t349 _ A23.out).mono ?_); rintro e w' ⟨rfl, ⟨nd, rfl⟩⟩; refine ⟨_, rfl, ?_⟩))
                            go_roundg kj17
                            case measure => have := HK1.out; have := HJ1.out; have := HJ9.out; have := HJ17.out; omega
                            case rel => exact ⟨(wrap64 (x3_1 + 1)), (by first | rfl | (simp; done) | (simp [*]; done)), H', ⟨by have := HK1.out; have := HJ1.out; have := HJ9.out; have := HJ17.out; omega⟩, ⟨by repeat (first | (with_reducible first | exact HB.out | apply below_alloc | apply pw_below_drewN | apply below_drew1) | exact HB.out)⟩⟩
                        · rw [if_neg c24] at H
                          have c24b0 : (t349 == x7_17) = false := beq_eq_false_iff_ne.mpr c24
                          have c24b1 : (t349 != x7_17) = true := bne_iff_ne.mpr c24
                          obtain rfl := Option.some.inj H
                          go_wp2_with (first | ((with_reducible refine gate_callee (f := 26) rfl ?_); refine goesL_ (some 51) rfl rfl Try.func26 (by kernel_rfl) rfl #[.complex .f64 t339.1 t339.2, .complex .f64 t341.1 t341.2, .complex .f64 t343.1 t343.2] rfl (by (try simp only [List.map_toArray, List.map_cons, List.map_nil]); first | done | rfl | (simp only [List.length_drop, List.length_take]; rfl)) ?_; (with_reducible refine (point_Has.calls kj17 t339 t341 t343 t347 t348 _ A22.out).mono ?_); rintro e w28 ⟨rfl, hb⟩; refine ⟨_, rfl, ?_⟩; have n0_ := Aside0.mk (below_step (by repeat (first | (with_reducible first | exact HB.out | apply below_alloc | apply pw_below_drewN | apply below_drew1) | exact HB.out)) hb); clear HB; have HB := n0_; clear n0_; (try clear hb); (try clear hb2); (try clear hk); (try clear hi)) | ((with_reducible refine gate_callee (f := 17) rfl ?_); refine goesL_ (some 55) rfl rfl Try.func17 (by kernel_rfl) rfl #[.int .i64 t348] rfl (by (try simp only [List.map_toArray, List.map_cons, List.map_nil]); first | done | rfl | (simp only [List.length_drop, List.length_take]; rfl)) ?_; (with_reducible refine (arraslaw3_num.calls t348 t349 _ A23.out).mono ?_); rintro e w' ⟨rfl, ⟨nd, rfl⟩⟩; refine ⟨_, rfl, ?_⟩))
                          go_ret
                          exact ⟨by first | rfl | (simp [errW_none, errW_some] <;> rfl) | (simp [*, errW_none, errW_some] <;> rfl), by repeat (first | (with_reducible first | exact HB.out | apply below_alloc | apply pw_below_drewN | apply below_drew1) | exact HB.out)⟩
              · rw [if_neg c6] at H
                exact absurd H (by simp)
            · rw [if_neg c5] at H
              exact absurd H (by simp)
          · replace c4 := Bool.eq_false_iff.mpr c4
            subst c4
            have H1 : ((arraslaw3_wakes.f kj1).bind fun t337 => (some t337)) = some r := by rw [if_neg (show ¬ (false = true) by decide)] at H; exact H
            clear H
            have H := H1
            clear H1
            replace H := Option.bind_eq_some_iff.mp H
            obtain ⟨t337, A290, H⟩ := H
            replace H : (some t337) = some r := H
            have A29 := Aside0.mk A290
            clear A290
            obtain rfl := Option.some.inj H
            go_wp2_with (first | ((with_reducible refine gate_callee (f := 20) rfl ?_); refine goesL_ (some 63) rfl rfl Try.func20 (by kernel_rfl) rfl #[] rfl (by (try simp only [List.map_toArray, List.map_cons, List.map_nil]); first | done | rfl | (simp only [List.length_drop, List.length_take]; rfl)) ?_; (with_reducible refine (arraslaw3_wakes.calls kj1  t337 _ A29.out).mono ?_); rintro e w30 ⟨rfl, hb⟩; refine ⟨_, rfl, ?_⟩; have n0_ := Aside0.mk (below_step (by repeat (first | (with_reducible first | exact HB.out | apply below_alloc | apply pw_below_drewN | apply below_drew1) | exact HB.out)) hb); clear HB; have HB := n0_; clear n0_; (try clear hb); (try clear hb2); (try clear hk); (try clear hi)))
            go_ret
            exact ⟨by first | rfl | (simp [errW_none, errW_some] <;> rfl) | (simp [*, errW_none, errW_some] <;> rfl), by repeat (first | (with_reducible first | exact HB.out | apply below_alloc | apply pw_below_drewN | apply below_drew1) | exact HB.out)⟩

/-! ### arrasref1_Sub: function 42 -/
def arrasref1_Sub.f (a0 : Int) (a1 : Int) : Option (Int) := (arrasref1_Sat.f (wrap64 (a0 - a1))).bind fun t350 => (some t350)
set_option maxHeartbeats 8000000 in
set_option maxRecDepth 100000 in
theorem arrasref1_Sub.calls (a0 : Int) (a1 : Int) (r : Int) (w : World) (h : arrasref1_Sub.f a0 a1 = some r) :
    Calls Try.prog 42 #[.int .i64 a0, .int .i64 a1] w fun e w' => e = .returned (.int .i64 r) ∧ Below w.heap.size w w' := by
  have HB := Aside0.mk (Below.refl w.heap.size w)
  have H : ((arrasref1_Sat.f (wrap64 (a0 - a1))).bind fun t350 => (some t350)) = some r := h
  clear h
  replace H := Option.bind_eq_some_iff.mp H
  obtain ⟨t350, A30, H⟩ := H
  replace H : (some t350) = some r := H
  have A3 := Aside0.mk A30
  clear A30
  obtain rfl := Option.some.inj H
  go_enter Try.func42, Try.ntmps42
  go_wp2_with (first | ((with_reducible refine gate_callee (f := 46) rfl ?_); refine goesL_ (some 8) rfl rfl Try.func46 (by kernel_rfl) rfl #[.int .i64 (wrap64 (a0 - a1))] rfl (by (try simp only [List.map_toArray, List.map_cons, List.map_nil]); first | done | rfl | (simp only [List.length_drop, List.length_take]; rfl)) ?_; (with_reducible refine (arrasref1_Sat.calls (wrap64 (a0 - a1)) t350 _ A3.out).mono ?_); rintro e w4 ⟨rfl, hb⟩; refine ⟨_, rfl, ?_⟩; have n0_ := Aside0.mk (below_step (by repeat (first | (with_reducible first | exact HB.out | apply below_alloc | apply pw_below_drewN | apply below_drew1) | exact HB.out)) hb); clear HB; have HB := n0_; clear n0_; (try clear hb); (try clear hb2); (try clear hk); (try clear hi)))
  go_ret
  exact ⟨by first | rfl | (simp [errW_none, errW_some] <;> rfl) | (simp [*, errW_none, errW_some] <;> rfl), by repeat (first | (with_reducible first | exact HB.out | apply below_alloc | apply pw_below_drewN | apply below_drew1) | exact HB.out)⟩

/-! ### arrasref3_Sub: function 28 -/
def arrasref3_Sub.f (a0 : C128) (a1 : C128) : Option (C128) := (arrasref3_X.f a0).bind fun t351 => ((arrasref3_X.f a1).bind fun t352 => ((arrasref1_Sub.f t351 t352).bind fun t353 => ((arrasref3_Y.f a0).bind fun t354 => ((arrasref3_Y.f a1).bind fun t355 => ((arrasref1_Sub.f t354 t355).bind fun t356 => ((arrasref3_Of.f t353 t356).bind fun t357 => (some t357)))))))
set_option maxHeartbeats 8000000 in
set_option maxRecDepth 100000 in
theorem arrasref3_Sub.calls (a0 : C128) (a1 : C128) (r : C128) (w : World) (h : arrasref3_Sub.f a0 a1 = some r) :
    Calls Try.prog 28 #[.complex .f64 a0.1 a0.2, .complex .f64 a1.1 a1.2] w fun e w' => e = .returned (.complex .f64 r.1 r.2) ∧ Below w.heap.size w w' := by
  have HB := Aside0.mk (Below.refl w.heap.size w)
  have H : ((arrasref3_X.f a0).bind fun t351 => ((arrasref3_X.f a1).bind fun t352 => ((arrasref1_Sub.f t351 t352).bind fun t353 => ((arrasref3_Y.f a0).bind fun t354 => ((arrasref3_Y.f a1).bind fun t355 => ((arrasref1_Sub.f t354 t355).bind fun t356 => ((arrasref3_Of.f t353 t356).bind fun t357 => (some t357)))))))) = some r := h
  clear h
  replace H := Option.bind_eq_some_iff.mp H
  obtain ⟨t351, A30, H⟩ := H
  replace H : ((arrasref3_X.f a1).bind fun t352 => ((arrasref1_Sub.f t351 t352).bind fun t353 => ((arrasref3_Y.f a0).bind fun t354 => ((arrasref3_Y.f a1).bind fun t355 => ((arrasref1_Sub.f t354 t355).bind fun t356 => ((arrasref3_Of.f t353 t356).bind fun t357 => (some t357))))))) = some r := H
  have A3 := Aside0.mk A30
  clear A30
  replace H := Option.bind_eq_some_iff.mp H
  obtain ⟨t352, A40, H⟩ := H
  replace H : ((arrasref1_Sub.f t351 t352).bind fun t353 => ((arrasref3_Y.f a0).bind fun t354 => ((arrasref3_Y.f a1).bind fun t355 => ((arrasref1_Sub.f t354 t355).bind fun t356 => ((arrasref3_Of.f t353 t356).bind fun t357 => (some t357)))))) = some r := H
  have A4 := Aside0.mk A40
  clear A40
  replace H := Option.bind_eq_some_iff.mp H
  obtain ⟨t353, A50, H⟩ := H
  replace H : ((arrasref3_Y.f a0).bind fun t354 => ((arrasref3_Y.f a1).bind fun t355 => ((arrasref1_Sub.f t354 t355).bind fun t356 => ((arrasref3_Of.f t353 t356).bind fun t357 => (some t357))))) = some r := H
  have A5 := Aside0.mk A50
  clear A50
  replace H := Option.bind_eq_some_iff.mp H
  obtain ⟨t354, A60, H⟩ := H
  replace H : ((arrasref3_Y.f a1).bind fun t355 => ((arrasref1_Sub.f t354 t355).bind fun t356 => ((arrasref3_Of.f t353 t356).bind fun t357 => (some t357)))) = some r := H
  have A6 := Aside0.mk A60
  clear A60
  replace H := Option.bind_eq_some_iff.mp H
  obtain ⟨t355, A70, H⟩ := H
  replace H : ((arrasref1_Sub.f t354 t355).bind fun t356 => ((arrasref3_Of.f t353 t356).bind fun t357 => (some t357))) = some r := H
  have A7 := Aside0.mk A70
  clear A70
  replace H := Option.bind_eq_some_iff.mp H
  obtain ⟨t356, A80, H⟩ := H
  replace H : ((arrasref3_Of.f t353 t356).bind fun t357 => (some t357)) = some r := H
  have A8 := Aside0.mk A80
  clear A80
  replace H := Option.bind_eq_some_iff.mp H
  obtain ⟨t357, A90, H⟩ := H
  replace H : (some t357) = some r := H
  have A9 := Aside0.mk A90
  clear A90
  obtain rfl := Option.some.inj H
  go_enter Try.func28, Try.ntmps28
  go_wp2_with (first | ((with_reducible refine gate_callee (f := 18) rfl ?_); refine goesL_ (some 6) rfl rfl Try.func18 (by kernel_rfl) rfl #[.complex .f64 a0.1 a0.2] rfl (by (try simp only [List.map_toArray, List.map_cons, List.map_nil]); first | done | rfl | (simp only [List.length_drop, List.length_take]; rfl)) ?_; (with_reducible refine (arrasref3_X.calls a0 t351 _ A3.out).mono ?_); rintro e w' ⟨rfl, ⟨nd, rfl⟩⟩; refine ⟨_, rfl, ?_⟩) | ((with_reducible refine gate_callee (f := 18) rfl ?_); refine goesL_ (some 8) rfl rfl Try.func18 (by kernel_rfl) rfl #[.complex .f64 a1.1 a1.2] rfl (by (try simp only [List.map_toArray, List.map_cons, List.map_nil]); first | done | rfl | (simp only [List.length_drop, List.length_take]; rfl)) ?_; (with_reducible refine (arrasref3_X.calls a1 t352 _ A4.out).mono ?_); rintro e w' ⟨rfl, ⟨nd, rfl⟩⟩; refine ⟨_, rfl, ?_⟩) | ((with_reducible refine gate_callee (f := 42) rfl ?_); refine goesL_ (some 9) rfl rfl Try.func42 (by kernel_rfl) rfl #[.int .i64 t351, .int .i64 t352] rfl (by (try simp only [List.map_toArray, List.map_cons, List.map_nil]); first | done | rfl | (simp only [List.length_drop, List.length_take]; rfl)) ?_; (with_reducible refine (arrasref1_Sub.calls t351 t352 t353 _ A5.out).mono ?_); rintro e w10 ⟨rfl, hb⟩; refine ⟨_, rfl, ?_⟩; have n0_ := Aside0.mk (below_step (by repeat (first | (with_reducible first | exact HB.out | apply below_alloc | apply pw_below_drewN | apply below_drew1) | exact HB.out)) hb); clear HB; have HB := n0_; clear n0_; (try clear hb); (try clear hb2); (try clear hk); (try clear hi)) | ((with_reducible refine gate_callee (f := 19) rfl ?_); refine goesL_ (some 11) rfl rfl Try.func19 (by kernel_rfl) rfl #[.complex .f64 a0.1 a0.2] rfl (by (try simp only [List.map_toArray, List.map_cons, List.map_nil]); first | done | rfl | (simp only [List.length_drop, List.length_take]; rfl)) ?_; (with_reducible refine (arrasref3_Y.calls a0 t354 _ A6.out).mono ?_); rintro e w' ⟨rfl, ⟨nd, rfl⟩⟩; refine ⟨_, rfl, ?_⟩) | ((with_reducible refine gate_callee (f := 19) rfl ?_); refine goesL_ (some 13) rfl rfl Try.func19 (by kernel_rfl) rfl #[.complex .f64 a1.1 a1.2] rfl (by (try simp only [List.map_toArray, List.map_cons, List.map_nil]); first | done | rfl | (simp only [List.length_drop, List.length_take]; rfl)) ?_; (with_reducible refine (arrasref3_Y.calls a1 t355 _ A7.out).mono ?_); rintro e w' ⟨rfl, ⟨nd, rfl⟩⟩; refine ⟨_, rfl, ?_⟩) | ((with_reducible refine gate_callee (f := 42) rfl ?_); refine goesL_ (some 14) rfl rfl Try.func42 (by kernel_rfl) rfl #[.int .i64 t354, .int .i64 t355] rfl (by (try simp only [List.map_toArray, List.map_cons, List.map_nil]); first | done | rfl | (simp only [List.length_drop, List.length_take]; rfl)) ?_; (with_reducible refine (arrasref1_Sub.calls t354 t355 t356 _ A8.out).mono ?_); rintro e w11 ⟨rfl, hb⟩; refine ⟨_, rfl, ?_⟩; have n0_ := Aside0.mk (below_step (by repeat (first | (with_reducible first | exact HB.out | apply below_alloc | apply pw_below_drewN | apply below_drew1) | exact HB.out)) hb); clear HB; have HB := n0_; clear n0_; (try clear hb); (try clear hb2); (try clear hk); (try clear hi)) | ((with_reducible refine gate_callee (f := 12) rfl ?_); refine goesL_ (some 15) rfl rfl Try.func12 (by kernel_rfl) rfl #[.int .i64 t353, .int .i64 t356] rfl (by (try simp only [List.map_toArray, List.map_cons, List.map_nil]); first | done | rfl | (simp only [List.length_drop, List.length_take]; rfl)) ?_; (with_reducible refine (arrasref3_Of.calls t353 t356 t357 _ A9.out).mono ?_); rintro e w' ⟨rfl, ⟨nd, rfl⟩⟩; refine ⟨_, rfl, ?_⟩))
  go_ret
  exact ⟨by first | rfl | (simp [errW_none, errW_some] <;> rfl) | (simp [*, errW_none, errW_some] <;> rfl), by repeat (first | (with_reducible first | exact HB.out | apply below_alloc | apply pw_below_drewN | apply below_drew1) | exact HB.out)⟩

end Go.Proofs.Ytdpeeinmckohgaa.PB
