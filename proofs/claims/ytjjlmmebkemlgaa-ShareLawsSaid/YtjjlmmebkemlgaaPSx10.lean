-- Written by wprint.py, a program of this session's, over the kit's print.
import Derived.Test.YtjjlmmebkemlgaaPSx0
import Derived.Test.YtjjlmmebkemlgaaPSx6
import Derived.Test.YtjjlmmebkemlgaaPSx7
import Derived.Test.YtjjlmmebkemlgaaPSx8
namespace Go.Proofs.Ytjjlmmebkemlgaa.PS
open Go.RowKit Go.Proofs.YtjjlmmebkemlgaaW.PrintWords Go.Proofs.YtjjlmmebkemlgaaW.PrintLast Go.Proofs.YtjjlmmebkemlgaaW.PrintMore
attribute [local go_sem] max2_int min2_int max_two min_two max_three min_three max_four min_four   -- for this text's walks alone
set_option linter.unusedVariables false
set_option linter.unusedSimpArgs false

/-! ### arraslaw2_ShareLaws: function 4 -/
mutual
def arraslaw2_ShareLaws.l0 : Nat → List (S25) → Int → Option (Bool)
  | 0, _, _ => none
  | k + 1, x0, x3 => if x3 < (x0.length : Int) then (arraslaw2_ShareLaws.j1 k x0 x3 (decide (x3 < 12))) else (arraslaw2_ShareLaws.j1 k x0 x3 false)
def arraslaw2_ShareLaws.j1 : Nat → List (S25) → Int → Bool → Option (Bool)
  | 0, _, _, _ => none
  | k + 1, x0, x3, x21 => if x21 = true then (if 0 ≤ x3 then (if x3 < (x0.length : Int) then (if (((rd_T25 x0 x3).f1).length : Int) > 2000 then (some true) else ((share_Split.f k ((rd_T25 x0 x3).f0) ((rd_T25 x0 x3).f1)).bind fun bt247 => ((arraslaw2_num.f bt247.2).bind fun t251 => (if t251 = 0 then (arraslaw2_ShareLaws.l1 k x0 x3 ((rd_T25 x0 x3).f1) ((rd_T25 x0 x3).f0) bt247.1 0 0 0) else (arraslaw2_ShareLaws.l0 k x0 (wrap64 (x3 + 1))))))) else (none)) else (none)) else ((arraslaw2_wakes.f k).bind fun t243 => (some t243))
def arraslaw2_ShareLaws.l1 : Nat → List (S25) → Int → List Int → Int → List Int → Int → Int → Int → Option (Bool)
  | 0, _, _, _, _, _, _, _, _ => none
  | k + 1, x0, x3, x4, x5, x6, x8, x9, x10 => if x10 < (x4.length : Int) then (if 0 ≤ x10 then (arraslaw2_ShareLaws.l1 k x0 x3 x4 x5 x6 (wrap64 (x8 + (rd x4 x10))) x9 (wrap64 (x10 + 1))) else (none)) else (if (x6.length : Int) = (x4.length : Int) then (arraslaw2_ShareLaws.l2 k x0 x3 x4 x5 x6 x8 x9 0) else (some false))
def arraslaw2_ShareLaws.l2 : Nat → List (S25) → Int → List Int → Int → List Int → Int → Int → Int → Option (Bool)
  | 0, _, _, _, _, _, _, _, _ => none
  | k + 1, x0, x3, x4, x5, x6, x8, x9, x11 => if x11 < (x6.length : Int) then (if 0 ≤ x11 then (if x11 < (x4.length : Int) then (if (wrap64 ((wrap64 ((rd x6 x11) * x8)) - (wrap64 (x5 * (rd x4 x11))))) ≤ (wrap64 (-x8)) then (arraslaw2_ShareLaws.j4 k x0 x3 x4 x5 x6 x8 (wrap64 (x9 + (rd x6 x11))) x11 true) else (if (wrap64 ((wrap64 ((rd x6 x11) * x8)) - (wrap64 (x5 * (rd x4 x11))))) ≥ x8 then (arraslaw2_ShareLaws.j4 k x0 x3 x4 x5 x6 x8 (wrap64 (x9 + (rd x6 x11))) x11 true) else (if (rd x4 x11) = 0 then (arraslaw2_ShareLaws.j4 k x0 x3 x4 x5 x6 x8 (wrap64 (x9 + (rd x6 x11))) x11 ((rd x6 x11) != 0)) else (arraslaw2_ShareLaws.j4 k x0 x3 x4 x5 x6 x8 (wrap64 (x9 + (rd x6 x11))) x11 false)))) else (none)) else (none)) else (if x9 = x5 then (arraslaw2_ShareLaws.l0 k x0 (wrap64 (x3 + 1))) else (some false))
def arraslaw2_ShareLaws.j4 : Nat → List (S25) → Int → List Int → Int → List Int → Int → Int → Int → Bool → Option (Bool)
  | 0, _, _, _, _, _, _, _, _, _ => none
  | k + 1, x0, x3, x4, x5, x6, x8, x9, x11, x114 => if x114 = true then (some false) else (arraslaw2_ShareLaws.l3 k x0 x3 x4 x5 x6 x8 x9 x11 0)
def arraslaw2_ShareLaws.l3 : Nat → List (S25) → Int → List Int → Int → List Int → Int → Int → Int → Int → Option (Bool)
  | 0, _, _, _, _, _, _, _, _, _ => none
  | k + 1, x0, x3, x4, x5, x6, x8, x9, x11, x13 => if x13 < x11 then (if 0 ≤ x13 then (if x13 < (x4.length : Int) then (if 0 ≤ x11 then (if x11 < (x4.length : Int) then (if (rd x4 x13) > (rd x4 x11) then (if x13 < (x6.length : Int) then (if x11 < (x6.length : Int) then (if (rd x6 x13) < (rd x6 x11) then (some false) else (if (rd x4 x13) < (rd x4 x11) then (if (rd x6 x13) > (rd x6 x11) then (some false) else (if (rd x4 x13) = (rd x4 x11) then (if (rd x6 x13) > (wrap64 ((rd x6 x11) + 1)) then (some false) else (arraslaw2_ShareLaws.l3 k x0 x3 x4 x5 x6 x8 x9 x11 (wrap64 (x13 + 1)))) else (arraslaw2_ShareLaws.l3 k x0 x3 x4 x5 x6 x8 x9 x11 (wrap64 (x13 + 1))))) else (if (rd x4 x13) = (rd x4 x11) then (if (rd x6 x13) > (wrap64 ((rd x6 x11) + 1)) then (some false) else (arraslaw2_ShareLaws.l3 k x0 x3 x4 x5 x6 x8 x9 x11 (wrap64 (x13 + 1)))) else (arraslaw2_ShareLaws.l3 k x0 x3 x4 x5 x6 x8 x9 x11 (wrap64 (x13 + 1)))))) else (none)) else (none)) else (if (rd x4 x13) < (rd x4 x11) then (if x13 < (x6.length : Int) then (if x11 < (x6.length : Int) then (if (rd x6 x13) > (rd x6 x11) then (some false) else (if (rd x4 x13) = (rd x4 x11) then (if (rd x6 x13) < (rd x6 x11) then (some false) else (if (rd x6 x13) > (wrap64 ((rd x6 x11) + 1)) then (some false) else (arraslaw2_ShareLaws.l3 k x0 x3 x4 x5 x6 x8 x9 x11 (wrap64 (x13 + 1))))) else (arraslaw2_ShareLaws.l3 k x0 x3 x4 x5 x6 x8 x9 x11 (wrap64 (x13 + 1))))) else (none)) else (none)) else (if (rd x4 x13) = (rd x4 x11) then (if x13 < (x6.length : Int) then (if x11 < (x6.length : Int) then (if (rd x6 x13) < (rd x6 x11) then (some false) else (if (rd x6 x13) > (wrap64 ((rd x6 x11) + 1)) then (some false) else (arraslaw2_ShareLaws.l3 k x0 x3 x4 x5 x6 x8 x9 x11 (wrap64 (x13 + 1))))) else (none)) else (none)) else (arraslaw2_ShareLaws.l3 k x0 x3 x4 x5 x6 x8 x9 x11 (wrap64 (x13 + 1)))))) else (none)) else (none)) else (none)) else (none)) else (arraslaw2_ShareLaws.l2 k x0 x3 x4 x5 x6 x8 x9 (wrap64 (x11 + 1)))
end
def arraslaw2_ShareLaws.f (k : Nat) (l0 : List (S25)) : Option (Bool) := arraslaw2_ShareLaws.l0 k l0 0
theorem arraslaw2_ShareLaws.mono_l : ∀ k, (∀ y0 y1, LeO (arraslaw2_ShareLaws.l0 k y0 y1) (arraslaw2_ShareLaws.l0 (k + 1) y0 y1)) ∧ (∀ y0 y1 y2, LeO (arraslaw2_ShareLaws.j1 k y0 y1 y2) (arraslaw2_ShareLaws.j1 (k + 1) y0 y1 y2)) ∧ (∀ y0 y1 y2 y3 y4 y5 y6 y7, LeO (arraslaw2_ShareLaws.l1 k y0 y1 y2 y3 y4 y5 y6 y7) (arraslaw2_ShareLaws.l1 (k + 1) y0 y1 y2 y3 y4 y5 y6 y7)) ∧ (∀ y0 y1 y2 y3 y4 y5 y6 y7, LeO (arraslaw2_ShareLaws.l2 k y0 y1 y2 y3 y4 y5 y6 y7) (arraslaw2_ShareLaws.l2 (k + 1) y0 y1 y2 y3 y4 y5 y6 y7)) ∧ (∀ y0 y1 y2 y3 y4 y5 y6 y7 y8, LeO (arraslaw2_ShareLaws.j4 k y0 y1 y2 y3 y4 y5 y6 y7 y8) (arraslaw2_ShareLaws.j4 (k + 1) y0 y1 y2 y3 y4 y5 y6 y7 y8)) ∧ (∀ y0 y1 y2 y3 y4 y5 y6 y7 y8, LeO (arraslaw2_ShareLaws.l3 k y0 y1 y2 y3 y4 y5 y6 y7 y8) (arraslaw2_ShareLaws.l3 (k + 1) y0 y1 y2 y3 y4 y5 y6 y7 y8))
  | 0 => ⟨fun _ _ r h => by simp [arraslaw2_ShareLaws.l0] at h, fun _ _ _ r h => by simp [arraslaw2_ShareLaws.j1] at h, fun _ _ _ _ _ _ _ _ r h => by simp [arraslaw2_ShareLaws.l1] at h, fun _ _ _ _ _ _ _ _ r h => by simp [arraslaw2_ShareLaws.l2] at h, fun _ _ _ _ _ _ _ _ _ r h => by simp [arraslaw2_ShareLaws.j4] at h, fun _ _ _ _ _ _ _ _ _ r h => by simp [arraslaw2_ShareLaws.l3] at h⟩
  | k + 1 => by
    obtain ⟨ih0, ih1, ih2, ih3, ih4, ih5⟩ := arraslaw2_ShareLaws.mono_l k
    refine ⟨?_, ?_, ?_, ?_, ?_, ?_⟩
    · intro y0 y1
      unfold arraslaw2_ShareLaws.l0
      repeat' first
      | (with_reducible exact ih0 _ _)
      | (with_reducible exact ih1 _ _ _)
      | (with_reducible exact ih2 _ _ _ _ _ _ _ _)
      | (with_reducible exact ih3 _ _ _ _ _ _ _ _)
      | (with_reducible exact ih4 _ _ _ _ _ _ _ _ _)
      | (with_reducible exact ih5 _ _ _ _ _ _ _ _ _)
      | (with_reducible exact arraslaw2_wakes.mono _)
      | (with_reducible exact share_Split.mono _ _ _)
      | (with_reducible exact LeO.refl _)
      | (with_reducible exact LeO.none _)
      | (with_reducible refine LeO.ite ?_ ?_)
      | (with_reducible refine LeO.bind ?_ (fun _ => ?_))
      | exact ih0 _ _
      | exact ih1 _ _ _
      | exact ih2 _ _ _ _ _ _ _ _
      | exact ih3 _ _ _ _ _ _ _ _
      | exact ih4 _ _ _ _ _ _ _ _ _
      | exact ih5 _ _ _ _ _ _ _ _ _
      | exact arraslaw2_wakes.mono _
      | exact share_Split.mono _ _ _
      | exact LeO.none _
      | refine LeO.ite ?_ ?_
      | refine LeO.bind ?_ (fun _ => ?_)
    · intro y0 y1 y2
      unfold arraslaw2_ShareLaws.j1
      repeat' first
      | (with_reducible exact ih0 _ _)
      | (with_reducible exact ih1 _ _ _)
      | (with_reducible exact ih2 _ _ _ _ _ _ _ _)
      | (with_reducible exact ih3 _ _ _ _ _ _ _ _)
      | (with_reducible exact ih4 _ _ _ _ _ _ _ _ _)
      | (with_reducible exact ih5 _ _ _ _ _ _ _ _ _)
      | (with_reducible exact arraslaw2_wakes.mono _)
      | (with_reducible exact share_Split.mono _ _ _)
      | (with_reducible exact LeO.refl _)
      | (with_reducible exact LeO.none _)
      | (with_reducible refine LeO.ite ?_ ?_)
      | (with_reducible refine LeO.bind ?_ (fun _ => ?_))
      | exact ih0 _ _
      | exact ih1 _ _ _
      | exact ih2 _ _ _ _ _ _ _ _
      | exact ih3 _ _ _ _ _ _ _ _
      | exact ih4 _ _ _ _ _ _ _ _ _
      | exact ih5 _ _ _ _ _ _ _ _ _
      | exact arraslaw2_wakes.mono _
      | exact share_Split.mono _ _ _
      | exact LeO.none _
      | refine LeO.ite ?_ ?_
      | refine LeO.bind ?_ (fun _ => ?_)
    · intro y0 y1 y2 y3 y4 y5 y6 y7
      unfold arraslaw2_ShareLaws.l1
      repeat' first
      | (with_reducible exact ih0 _ _)
      | (with_reducible exact ih1 _ _ _)
      | (with_reducible exact ih2 _ _ _ _ _ _ _ _)
      | (with_reducible exact ih3 _ _ _ _ _ _ _ _)
      | (with_reducible exact ih4 _ _ _ _ _ _ _ _ _)
      | (with_reducible exact ih5 _ _ _ _ _ _ _ _ _)
      | (with_reducible exact arraslaw2_wakes.mono _)
      | (with_reducible exact share_Split.mono _ _ _)
      | (with_reducible exact LeO.refl _)
      | (with_reducible exact LeO.none _)
      | (with_reducible refine LeO.ite ?_ ?_)
      | (with_reducible refine LeO.bind ?_ (fun _ => ?_))
      | exact ih0 _ _
      | exact ih1 _ _ _
      | exact ih2 _ _ _ _ _ _ _ _
      | exact ih3 _ _ _ _ _ _ _ _
      | exact ih4 _ _ _ _ _ _ _ _ _
      | exact ih5 _ _ _ _ _ _ _ _ _
      | exact arraslaw2_wakes.mono _
      | exact share_Split.mono _ _ _
      | exact LeO.none _
      | refine LeO.ite ?_ ?_
      | refine LeO.bind ?_ (fun _ => ?_)
    · intro y0 y1 y2 y3 y4 y5 y6 y7
      unfold arraslaw2_ShareLaws.l2
      repeat' first
      | (with_reducible exact ih0 _ _)
      | (with_reducible exact ih1 _ _ _)
      | (with_reducible exact ih2 _ _ _ _ _ _ _ _)
      | (with_reducible exact ih3 _ _ _ _ _ _ _ _)
      | (with_reducible exact ih4 _ _ _ _ _ _ _ _ _)
      | (with_reducible exact ih5 _ _ _ _ _ _ _ _ _)
      | (with_reducible exact arraslaw2_wakes.mono _)
      | (with_reducible exact share_Split.mono _ _ _)
      | (with_reducible exact LeO.refl _)
      | (with_reducible exact LeO.none _)
      | (with_reducible refine LeO.ite ?_ ?_)
      | (with_reducible refine LeO.bind ?_ (fun _ => ?_))
      | exact ih0 _ _
      | exact ih1 _ _ _
      | exact ih2 _ _ _ _ _ _ _ _
      | exact ih3 _ _ _ _ _ _ _ _
      | exact ih4 _ _ _ _ _ _ _ _ _
      | exact ih5 _ _ _ _ _ _ _ _ _
      | exact arraslaw2_wakes.mono _
      | exact share_Split.mono _ _ _
      | exact LeO.none _
      | refine LeO.ite ?_ ?_
      | refine LeO.bind ?_ (fun _ => ?_)
    · intro y0 y1 y2 y3 y4 y5 y6 y7 y8
      unfold arraslaw2_ShareLaws.j4
      repeat' first
      | (with_reducible exact ih0 _ _)
      | (with_reducible exact ih1 _ _ _)
      | (with_reducible exact ih2 _ _ _ _ _ _ _ _)
      | (with_reducible exact ih3 _ _ _ _ _ _ _ _)
      | (with_reducible exact ih4 _ _ _ _ _ _ _ _ _)
      | (with_reducible exact ih5 _ _ _ _ _ _ _ _ _)
      | (with_reducible exact arraslaw2_wakes.mono _)
      | (with_reducible exact share_Split.mono _ _ _)
      | (with_reducible exact LeO.refl _)
      | (with_reducible exact LeO.none _)
      | (with_reducible refine LeO.ite ?_ ?_)
      | (with_reducible refine LeO.bind ?_ (fun _ => ?_))
      | exact ih0 _ _
      | exact ih1 _ _ _
      | exact ih2 _ _ _ _ _ _ _ _
      | exact ih3 _ _ _ _ _ _ _ _
      | exact ih4 _ _ _ _ _ _ _ _ _
      | exact ih5 _ _ _ _ _ _ _ _ _
      | exact arraslaw2_wakes.mono _
      | exact share_Split.mono _ _ _
      | exact LeO.none _
      | refine LeO.ite ?_ ?_
      | refine LeO.bind ?_ (fun _ => ?_)
    · intro y0 y1 y2 y3 y4 y5 y6 y7 y8
      unfold arraslaw2_ShareLaws.l3
      repeat' first
      | (with_reducible exact ih0 _ _)
      | (with_reducible exact ih1 _ _ _)
      | (with_reducible exact ih2 _ _ _ _ _ _ _ _)
      | (with_reducible exact ih3 _ _ _ _ _ _ _ _)
      | (with_reducible exact ih4 _ _ _ _ _ _ _ _ _)
      | (with_reducible exact ih5 _ _ _ _ _ _ _ _ _)
      | (with_reducible exact arraslaw2_wakes.mono _)
      | (with_reducible exact share_Split.mono _ _ _)
      | (with_reducible exact LeO.refl _)
      | (with_reducible exact LeO.none _)
      | (with_reducible refine LeO.ite ?_ ?_)
      | (with_reducible refine LeO.bind ?_ (fun _ => ?_))
      | exact ih0 _ _
      | exact ih1 _ _ _
      | exact ih2 _ _ _ _ _ _ _ _
      | exact ih3 _ _ _ _ _ _ _ _
      | exact ih4 _ _ _ _ _ _ _ _ _
      | exact ih5 _ _ _ _ _ _ _ _ _
      | exact arraslaw2_wakes.mono _
      | exact share_Split.mono _ _ _
      | exact LeO.none _
      | refine LeO.ite ?_ ?_
      | refine LeO.bind ?_ (fun _ => ?_)
theorem arraslaw2_ShareLaws.mono : ∀ a0 k, LeO (arraslaw2_ShareLaws.f k a0) (arraslaw2_ShareLaws.f (k + 1) a0) := by
  intro a0 k
  obtain ⟨ih0, ih1, ih2, ih3, ih4, ih5⟩ := arraslaw2_ShareLaws.mono_l k
  unfold arraslaw2_ShareLaws.f
  repeat' first
      | (with_reducible exact ih0 _ _)
      | (with_reducible exact ih1 _ _ _)
      | (with_reducible exact ih2 _ _ _ _ _ _ _ _)
      | (with_reducible exact ih3 _ _ _ _ _ _ _ _)
      | (with_reducible exact ih4 _ _ _ _ _ _ _ _ _)
      | (with_reducible exact ih5 _ _ _ _ _ _ _ _ _)
      | (with_reducible exact arraslaw2_wakes.mono _)
      | (with_reducible exact share_Split.mono _ _ _)
      | (with_reducible exact LeO.refl _)
      | (with_reducible exact LeO.none _)
      | (with_reducible refine LeO.ite ?_ ?_)
      | (with_reducible refine LeO.bind ?_ (fun _ => ?_))
      | exact ih0 _ _
      | exact ih1 _ _ _
      | exact ih2 _ _ _ _ _ _ _ _
      | exact ih3 _ _ _ _ _ _ _ _
      | exact ih4 _ _ _ _ _ _ _ _ _
      | exact ih5 _ _ _ _ _ _ _ _ _
      | exact arraslaw2_wakes.mono _
      | exact share_Split.mono _ _ _
      | exact LeO.none _
      | refine LeO.ite ?_ ?_
      | refine LeO.bind ?_ (fun _ => ?_)
set_option maxHeartbeats 8000000 in
set_option maxRecDepth 100000 in
theorem arraslaw2_ShareLaws.calls (k : Nat) (A0 : Option Addr) (c0 : Nat) (l0 : List (S25)) (r : Bool) (w : World) (hr0 : Kd.C k25 w A0 l0.length l0) (hc0 : l0.length ≤ c0) (h : arraslaw2_ShareLaws.f k l0 = some r) :
  Calls Try.prog 4 #[.slice A0 l0.length c0] w fun e w' => e = .returned (.bool r) ∧ Below w.heap.size w w' := by
 have HR0 := Aside0.mk hr0; have HC0 := Aside0.mk hc0; clear hr0 hc0; have HB := Aside0.mk (Below.refl w.heap.size w)
 have H : (arraslaw2_ShareLaws.l0 k l0 0) = some r := h
 clear h
 have H' := Aside0.mk H
 clear H
 go_enter Try.func4, Try.ntmps4
 go_wp2
 repeat (go_quiet (fail); try go_wp2)
 go_loopg [3] k (fun kq v3 w' => ∃ (x3_1 : Int), v3 = .int .i64 x3_1 ∧ Aside0 (arraslaw2_ShareLaws.l0 kq l0 x3_1 = some r) ∧ Aside0 (kq ≤ k) ∧ Aside0 (Below w.heap.size w w'))
 case atStart => exact ⟨(0), (by first | rfl | (simp; done) | (simp [*]; done)), H', ⟨Nat.le_refl _⟩, ⟨by repeat (first | (with_reducible first | exact HB.out | apply below_alloc | apply pw_below_drewN | apply below_drew1) | exact HB.out)⟩⟩
 case round => as_aux_lemma =>
  clear H'
  obtain ⟨x3_1, rfl, HA, HK1, HB⟩ := hrel
  cases gk with
  | zero => exact absurd HA.out (by simp [arraslaw2_ShareLaws.l0])
  | succ k1 =>
   have H := HA.out
   clear HA
   simp only [arraslaw2_ShareLaws.l0] at H
   have HC2 := Aside0.mk H; clear H
   go_upto_region 2 with (fail)
   repeat (go_quiet (fail); go_upto_region 2 with (fail))
   go_cut [21] (fun v21 wc => ∃ (kq : Nat) (x21_1 : Bool), v21 = .bool x21_1 ∧ Aside0 (arraslaw2_ShareLaws.j1 kq l0 x3_1 x21_1 = some r) ∧ Aside0 (kq ≤ k1) ∧ Aside0 (Below w.heap.size w wc))
   case first => as_aux_lemma =>
    have H := HC2.out
    clear HC2
    by_cases c3 : x3_1 < (l0.length : Int)
    ·rw [if_pos c3] at H
     have c3b0 : decide (x3_1 < (l0.length : Int)) = true := decide_eq_true c3
     clear c3
     (first | rw [c3b0] | (simp only [i64_w, i32_w]; rw [c3b0]) | skip)
     have H' := Aside0.mk H
     clear H
     go_wp2
     repeat (go_quiet (fail); try go_wp2)
     go_meet
     case rel => exact ⟨_, (decide (x3_1 < 12)), (by first | rfl | (simp; done) | (simp [*]; done)), H', ⟨by have := HK1.out; first | omega | exact Nat.le_refl _⟩, ⟨by repeat (first | (with_reducible first | exact HB.out | apply below_alloc | apply pw_below_drewN | apply below_drew1) | exact HB.out)⟩⟩
    ·rw [if_neg c3] at H
     have c3b0 : decide (x3_1 < (l0.length : Int)) = false := decide_eq_false c3
     clear c3
     (first | rw [c3b0] | (simp only [i64_w, i32_w]; rw [c3b0]) | skip)
     have H' := Aside0.mk H
     clear H
     go_wp2
     repeat (go_quiet (fail); try go_wp2)
     go_meet
     case rel => exact ⟨_, (false), (by first | rfl | (simp; done) | (simp [*]; done)), H', ⟨by have := HK1.out; first | omega | exact Nat.le_refl _⟩, ⟨by repeat (first | (with_reducible first | exact HB.out | apply below_alloc | apply pw_below_drewN | apply below_drew1) | exact HB.out)⟩⟩
   case rest => as_aux_lemma =>
    clear HC2
    try clear p2
    try clear c3
    try clear c3b0
    obtain ⟨kq, x21_1, rfl, HA, HJ1, HB⟩ := hcut
    cases kq with
    | zero => exact absurd HA.out (by simp [arraslaw2_ShareLaws.j1])
    | succ kj1 =>
     have H := HA.out
     clear HA
     simp only [arraslaw2_ShareLaws.j1] at H
     by_cases c4 : x21_1 = true
     ·subst c4
      have H1 : (if 0 ≤ x3_1 then (if x3_1 < (l0.length : Int) then (if (((rd_T25 l0 x3_1).f1).length : Int) > 2000 then (some true) else ((share_Split.f kj1 ((rd_T25 l0 x3_1).f0) ((rd_T25 l0 x3_1).f1)).bind fun bt247 => ((arraslaw2_num.f bt247.2).bind fun t251 => (if t251 = 0 then (arraslaw2_ShareLaws.l1 kj1 l0 x3_1 ((rd_T25 l0 x3_1).f1) ((rd_T25 l0 x3_1).f0) bt247.1 0 0 0) else (arraslaw2_ShareLaws.l0 kj1 l0 (wrap64 (x3_1 + 1))))))) else (none)) else (none)) = some r := by rw [if_pos rfl] at H; exact H
      clear H; have H := H1; clear H1
      by_cases c5 : 0 ≤ x3_1
      ·rw [if_pos c5] at H
       have c5b0 : decide (0 ≤ x3_1) = true := decide_eq_true c5
       clear c5
       by_cases c6 : x3_1 < (l0.length : Int)
       ·rw [if_pos c6] at H
        have c6b0 : decide (x3_1 < (l0.length : Int)) = true := decide_eq_true c6
        clear c6
        by_cases c7 : (((rd_T25 l0 x3_1).f1).length : Int) > 2000
        ·rw [if_pos c7] at H
         have c7b0 : decide (2000 < (((rd_T25 l0 x3_1).f1).length : Int)) = true := decide_eq_true c7
         have c7b1 : decide (2000 < ((rd_T25 l0 x3_1).f1).length) = true := decide_eq_true (by omega)
         clear c7
         obtain rfl := Option.some.inj H
         have p244 : 0 ≤ (x3_1 : Int) := of_decide_eq_true (by first | (with_reducible assumption) | assumption); have q244 : x3_1 < (l0.length : Int) := of_decide_eq_true (by first | (with_reducible assumption) | assumption)
         obtain ⟨ad244, A244_1, c244_1, e244, hx244_0, hx244_1, hl244_1, hi244_1⟩ := at_T25 HR0.out x3_1 p244 q244
         cases e244
         replace hx244_0 := (HB.out.cell (World.block_lt_of_cell? w _ hx244_0)).trans hx244_0
         replace hx244_1 := (HB.out.cell (World.block_lt_of_cell? w _ hx244_1)).trans hx244_1
         have HR244_1 := Aside0.mk hi244_1; have HC244_1 := Aside0.mk hl244_1; clear hi244_1 hl244_1; replace p244 := eq_true p244; replace q244 := eq_true q244
         go_wp2
         repeat (go_quiet (fail); try go_wp2)
         go_ret
         exact ⟨by first | rfl | (simp [errW_none, errW_some] <;> rfl) | (simp [*, errW_none, errW_some] <;> rfl), by repeat (first | (with_reducible first | exact HB.out | apply below_alloc | apply pw_below_drewN | apply below_drew1) | exact HB.out)⟩
        ·rw [if_neg c7] at H
         have c7b0 : decide (2000 < (((rd_T25 l0 x3_1).f1).length : Int)) = false := decide_eq_false c7
         have c7b1 : decide (2000 < ((rd_T25 l0 x3_1).f1).length) = false := decide_eq_false (by omega)
         clear c7
         replace H := Option.bind_eq_some_iff.mp H
         obtain ⟨⟨t247, t248⟩, A80, H⟩ := H
         replace H : ((arraslaw2_num.f t248).bind fun t251 => (if t251 = 0 then (arraslaw2_ShareLaws.l1 kj1 l0 x3_1 ((rd_T25 l0 x3_1).f1) ((rd_T25 l0 x3_1).f0) t247 0 0 0) else (arraslaw2_ShareLaws.l0 kj1 l0 (wrap64 (x3_1 + 1))))) = some r := H
         have A8 := Aside0.mk A80; clear A80
         replace H := Option.bind_eq_some_iff.mp H
         obtain ⟨t251, A90, H⟩ := H
         replace H : (if t251 = 0 then (arraslaw2_ShareLaws.l1 kj1 l0 x3_1 ((rd_T25 l0 x3_1).f1) ((rd_T25 l0 x3_1).f0) t247 0 0 0) else (arraslaw2_ShareLaws.l0 kj1 l0 (wrap64 (x3_1 + 1)))) = some r := H
         have A9 := Aside0.mk A90; clear A90
         by_cases c10 : t251 = 0
         ·rw [if_pos c10] at H
          have c10b0 : (t251 == 0) = true := beq_iff_eq.mpr c10
          have c10b1 : (t251 != 0) = false := bne_eq_false_iff_eq.mpr c10
          clear c10
          have H' := Aside0.mk H
          clear H; have p244 : 0 ≤ (x3_1 : Int) := of_decide_eq_true (by first | (with_reducible assumption) | assumption); have q244 : x3_1 < (l0.length : Int) := of_decide_eq_true (by first | (with_reducible assumption) | assumption)
          obtain ⟨ad244, A244_1, c244_1, e244, hx244_0, hx244_1, hl244_1, hi244_1⟩ := at_T25 HR0.out x3_1 p244 q244
          cases e244
          replace hx244_0 := (HB.out.cell (World.block_lt_of_cell? w _ hx244_0)).trans hx244_0
          replace hx244_1 := (HB.out.cell (World.block_lt_of_cell? w _ hx244_1)).trans hx244_1
          have HR244_1 := Aside0.mk hi244_1; have HC244_1 := Aside0.mk hl244_1; clear hi244_1 hl244_1; replace p244 := eq_true p244; replace q244 := eq_true q244; have p245 : 0 ≤ (x3_1 : Int) := of_decide_eq_true (by first | (with_reducible assumption) | assumption); have q245 : x3_1 < (l0.length : Int) := of_decide_eq_true (by first | (with_reducible assumption) | assumption)
          obtain ⟨ad245, A245_1, c245_1, e245, hx245_0, hx245_1, hl245_1, hi245_1⟩ := at_T25 HR0.out x3_1 p245 q245
          obtain rfl : ad244 = ad245 := (by injection e245)
          replace hx245_0 := (HB.out.cell (World.block_lt_of_cell? w _ hx245_0)).trans hx245_0
          replace hx245_1 := (HB.out.cell (World.block_lt_of_cell? w _ hx245_1)).trans hx245_1
          have HR245_1 := Aside0.mk hi245_1; have HC245_1 := Aside0.mk hl245_1; clear hi245_1 hl245_1; replace p245 := eq_true p245; replace q245 := eq_true q245
          have ea_ := Option.some.inj (hx244_1.symm.trans hx245_1)
          injection ea_ with ea_ en_ ec_
          subst ea_
          subst ec_
          clear en_; have p246 : 0 ≤ (x3_1 : Int) := of_decide_eq_true (by first | (with_reducible assumption) | assumption); have q246 : x3_1 < (l0.length : Int) := of_decide_eq_true (by first | (with_reducible assumption) | assumption)
          obtain ⟨ad246, A246_1, c246_1, e246, hx246_0, hx246_1, hl246_1, hi246_1⟩ := at_T25 HR0.out x3_1 p246 q246
          obtain rfl : ad244 = ad246 := (by injection e246)
          replace hx246_0 := (HB.out.cell (World.block_lt_of_cell? w _ hx246_0)).trans hx246_0
          replace hx246_1 := (HB.out.cell (World.block_lt_of_cell? w _ hx246_1)).trans hx246_1
          have HR246_1 := Aside0.mk hi246_1; have HC246_1 := Aside0.mk hl246_1; clear hi246_1 hl246_1; replace p246 := eq_true p246; replace q246 := eq_true q246
          have ea_ := Option.some.inj (hx244_1.symm.trans hx246_1)
          injection ea_ with ea_ en_ ec_
          subst ea_
          subst ec_
          clear en_
          go_wp2_with (first | (go_at_call 14; (with_reducible refine (share_Split.calls kj1 ((rd_T25 l0 x3_1).f0) _ _ ((rd_T25 l0 x3_1).f1) t247 t248 _ ?side1 ?side2 A8.out).mono ?_); (case side1 => repeat (first | exact (Kd.C_below HR245_1.out HB.out) | (with_reducible refine Kd.C_alloc ?_ _) | (with_reducible refine Kd.C_drewN ?_ _) | (with_reducible refine Kd.C_drew ?_))); (case side2 => exact HC245_1.out); rintro e w11 ⟨v249, rfl, ho0, hb⟩; have n0_ := Aside0.mk (Kd.R_lower ho0 (below_size (by repeat (first | (with_reducible first | exact HB.out | apply below_alloc | apply pw_below_drewN | apply below_drew1) | exact HB.out)))); have n1_ := Aside0.mk (below_step (by repeat (first | (with_reducible first | exact HB.out | apply below_alloc | apply pw_below_drewN | apply below_drew1) | exact HB.out)) hb); clear HB; have HO250 := n0_; have HB := n1_; clear n0_ n1_; (try clear hb); (try clear hb2); (try clear hk); (try clear hi); (try clear ho0)) | (go_at_call 16; (with_reducible refine (arraslaw2_num.calls t248 t251 _ A9.out).mono ?_); rintro e w' ⟨rfl, ⟨nd, rfl⟩⟩; (try first | exact ⟨rfl, _, World.drewN_drewN _ _ _⟩ | exact ⟨rfl, _, Eq.trans (World.drewN_drewN _ _ _) (congrArg (World.drewN _) (Nat.add_assoc _ _ _))⟩)))
          repeat (go_quiet (first | (go_at_call 14; (with_reducible refine (share_Split.calls kj1 ((rd_T25 l0 x3_1).f0) _ _ ((rd_T25 l0 x3_1).f1) t247 t248 _ ?side1 ?side2 A8.out).mono ?_); (case side1 => repeat (first | exact (Kd.C_below HR245_1.out HB.out) | (with_reducible refine Kd.C_alloc ?_ _) | (with_reducible refine Kd.C_drewN ?_ _) | (with_reducible refine Kd.C_drew ?_))); (case side2 => exact HC245_1.out); rintro e w11 ⟨v249, rfl, ho0, hb⟩; have n0_ := Aside0.mk (Kd.R_lower ho0 (below_size (by repeat (first | (with_reducible first | exact HB.out | apply below_alloc | apply pw_below_drewN | apply below_drew1) | exact HB.out)))); have n1_ := Aside0.mk (below_step (by repeat (first | (with_reducible first | exact HB.out | apply below_alloc | apply pw_below_drewN | apply below_drew1) | exact HB.out)) hb); clear HB; have HO250 := n0_; have HB := n1_; clear n0_ n1_; (try clear hb); (try clear hb2); (try clear hk); (try clear hi); (try clear ho0)) | (go_at_call 16; (with_reducible refine (arraslaw2_num.calls t248 t251 _ A9.out).mono ?_); rintro e w' ⟨rfl, ⟨nd, rfl⟩⟩; (try first | exact ⟨rfl, _, World.drewN_drewN _ _ _⟩ | exact ⟨rfl, _, Eq.trans (World.drewN_drewN _ _ _) (congrArg (World.drewN _) (Nat.add_assoc _ _ _))⟩))); try go_wp2_with (first | (go_at_call 14; (with_reducible refine (share_Split.calls kj1 ((rd_T25 l0 x3_1).f0) _ _ ((rd_T25 l0 x3_1).f1) t247 t248 _ ?side1 ?side2 A8.out).mono ?_); (case side1 => repeat (first | exact (Kd.C_below HR245_1.out HB.out) | (with_reducible refine Kd.C_alloc ?_ _) | (with_reducible refine Kd.C_drewN ?_ _) | (with_reducible refine Kd.C_drew ?_))); (case side2 => exact HC245_1.out); rintro e w11 ⟨v249, rfl, ho0, hb⟩; have n0_ := Aside0.mk (Kd.R_lower ho0 (below_size (by repeat (first | (with_reducible first | exact HB.out | apply below_alloc | apply pw_below_drewN | apply below_drew1) | exact HB.out)))); have n1_ := Aside0.mk (below_step (by repeat (first | (with_reducible first | exact HB.out | apply below_alloc | apply pw_below_drewN | apply below_drew1) | exact HB.out)) hb); clear HB; have HO250 := n0_; have HB := n1_; clear n0_ n1_; (try clear hb); (try clear hb2); (try clear hk); (try clear hi); (try clear ho0)) | (go_at_call 16; (with_reducible refine (arraslaw2_num.calls t248 t251 _ A9.out).mono ?_); rintro e w' ⟨rfl, ⟨nd, rfl⟩⟩; (try first | exact ⟨rfl, _, World.drewN_drewN _ _ _⟩ | exact ⟨rfl, _, Eq.trans (World.drewN_drewN _ _ _) (congrArg (World.drewN _) (Nat.add_assoc _ _ _))⟩))))
          go_loopg [8, 10] kj1 (fun kq v8 v10 w' => ∃ (x8_3 : Int) (x10_3 : Int), v8 = .int .i64 x8_3 ∧ v10 = .int .i64 x10_3 ∧ Aside0 (arraslaw2_ShareLaws.l1 kq l0 x3_1 ((rd_T25 l0 x3_1).f1) ((rd_T25 l0 x3_1).f0) t247 x8_3 0 x10_3 = some r) ∧ Aside0 (kq ≤ kj1) ∧ Aside0 (Kd.R (Kd.int .i64) 3 w' w.heap.size (fun _ => True) v249 t247) ∧ Aside0 (Below w.heap.size w w'))
          case atStart => exact ⟨(0), (0), (by first | rfl | (simp; done) | (simp [*]; done)), (by first | rfl | (simp; done) | (simp [*]; done)), H', ⟨Nat.le_refl _⟩, ⟨by (with_reducible repeat (first | apply Kd.R_alloc | apply Kd.R_drewN | apply Kd.R_drew)); exact HO250.out⟩, ⟨by repeat (first | (with_reducible first | exact HB.out | apply below_alloc | apply pw_below_drewN | apply below_drew1) | exact HB.out)⟩⟩
          case round => as_aux_lemma =>
           clear H'
           try clear c1
           try clear c2
           try clear p2
           try clear q2
           try clear hx2
           try clear c3
           try clear c3b0
           try clear c4
           try clear c5
           try clear c5b0
           try clear c6
           try clear c6b0
           try clear p6
           try clear c7
           try clear c7b0
           try clear c7b1
           try clear c10
           try clear c10b0
           try clear c10b1
           try clear hx244_0
           try clear hx244_1
           try clear hx245_0
           try clear hx245_1
           try clear hx246_0
           try clear hx246_1
           try clear p2
           try clear p244
           try clear p245
           try clear p246
           try clear q244
           try clear q245
           try clear q246
           obtain ⟨x8_3, x10_3, rfl, rfl, HA, HK3, HO_6, HB⟩ := hrel
           cases gk with
           | zero => exact absurd HA.out (by simp [arraslaw2_ShareLaws.l1])
           | succ k3 =>
            have H := HA.out
            clear HA
            simp only [arraslaw2_ShareLaws.l1] at H
            by_cases c12 : x10_3 < (((rd_T25 l0 x3_1).f1).length : Int)
            ·rw [if_pos c12] at H
             have c12b0 : decide (x10_3 < (((rd_T25 l0 x3_1).f1).length : Int)) = true := decide_eq_true c12
             clear c12
             by_cases c13 : 0 ≤ x10_3
             ·rw [if_pos c13] at H
              have c13b0 : decide (0 ≤ x10_3) = true := decide_eq_true c13
              clear c13
              have H' := Aside0.mk H
              clear H; have p252 : 0 ≤ (x10_3 : Int) := of_decide_eq_true (by first | (with_reducible assumption) | assumption); have q252 : x10_3 < (((rd_T25 l0 x3_1).f1).length : Int) := of_decide_eq_true (by first | (with_reducible assumption) | assumption); obtain ⟨ad252, e252, hx252_0⟩ := Kd.at_int HR245_1.out x10_3 p252 q252; cases e252
              replace hx252_0 := (HB.out.cell (World.block_lt_of_cell? w _ hx252_0)).trans hx252_0
              replace p252 := eq_true p252; replace q252 := eq_true q252
              go_wp2
              repeat (go_quiet (fail); try go_wp2)
              go_roundg k3
              case measure => have := HK1.out; have := HJ1.out; have := HK3.out; omega
              case rel => exact ⟨(wrap64 (x8_3 + (rd ((rd_T25 l0 x3_1).f1) x10_3))), (wrap64 (x10_3 + 1)), (by first | rfl | (simp; done) | (simp [*]; done)), (by first | rfl | (simp; done) | (simp [*]; done)), H', ⟨by have := HK1.out; have := HJ1.out; have := HK3.out; omega⟩, ⟨by (with_reducible repeat (first | apply Kd.R_alloc | apply Kd.R_drewN | apply Kd.R_drew)); exact HO_6.out⟩, ⟨by repeat (first | (with_reducible first | exact HB.out | apply below_alloc | apply pw_below_drewN | apply below_drew1) | exact HB.out)⟩⟩
             ·rw [if_neg c13] at H
              exact absurd H (by simp)
            ·rw [if_neg c12] at H
             have c12b0 : decide (x10_3 < (((rd_T25 l0 x3_1).f1).length : Int)) = false := decide_eq_false c12
             clear c12
             by_cases c14 : (t247.length : Int) = (((rd_T25 l0 x3_1).f1).length : Int)
             ·rw [if_pos c14] at H
              have c14b0 : ((t247.length : Int) == (((rd_T25 l0 x3_1).f1).length : Int)) = true := beq_iff_eq.mpr c14
              have c14b1 : ((t247.length : Int) != (((rd_T25 l0 x3_1).f1).length : Int)) = false := bne_eq_false_iff_eq.mpr c14
              have c14b2 : (t247.length == ((rd_T25 l0 x3_1).f1).length) = true := by first | simpa using c14 | (simp at c14 ⊢; omega)
              clear c14
              have H' := Aside0.mk H
              clear H
              obtain ⟨Ao15, co15, eo15⟩ := Kd.R_slice HO_6.out
              subst eo15
              go_wp2
              repeat (go_quiet (fail); try go_wp2)
              go_loopg [9, 11] k3 (fun kq v9 v11 w' => ∃ (x9_4 : Int) (x11_4 : Int), v9 = .int .i64 x9_4 ∧ v11 = .int .i64 x11_4 ∧ Aside0 (arraslaw2_ShareLaws.l2 kq l0 x3_1 ((rd_T25 l0 x3_1).f1) ((rd_T25 l0 x3_1).f0) t247 x8_3 x9_4 x11_4 = some r) ∧ Aside0 (kq ≤ k3) ∧ Aside0 (Kd.R (Kd.int .i64) 3 w' w.heap.size (fun _ => True) (.slice Ao15 t247.length co15) t247) ∧ Aside0 (Below w.heap.size w w'))
              case atStart => exact ⟨(0), (0), (by first | rfl | (simp; done) | (simp [*]; done)), (by first | rfl | (simp; done) | (simp [*]; done)), H', ⟨Nat.le_refl _⟩, ⟨by (with_reducible repeat (first | apply Kd.R_alloc | apply Kd.R_drewN | apply Kd.R_drew)); exact HO_6.out⟩, ⟨by repeat (first | (with_reducible first | exact HB.out | apply below_alloc | apply pw_below_drewN | apply below_drew1) | exact HB.out)⟩⟩
              case round => as_aux_lemma =>
               clear H'
               try clear c1
               try clear c2
               try clear p2
               try clear q2
               try clear hx2
               try clear c3
               try clear c3b0
               try clear c4
               try clear c5
               try clear c5b0
               try clear c6
               try clear c6b0
               try clear p6
               try clear c7
               try clear c7b0
               try clear c7b1
               try clear c10
               try clear c10b0
               try clear c10b1
               try clear c12
               try clear c12b0
               try clear c13
               try clear c13b0
               try clear c14
               try clear c14b0
               try clear c14b1
               try clear c14b2
               try clear hx244_0
               try clear hx244_1
               try clear hx245_0
               try clear hx245_1
               try clear hx246_0
               try clear hx246_1
               try clear hx252_0
               try clear p2
               try clear p244
               try clear p245
               try clear p246
               try clear p252
               try clear p6
               try clear q2
               try clear q244
               try clear q245
               try clear q246
               try clear q252
               obtain ⟨x9_4, x11_4, rfl, rfl, HA, HK4, HO_6, HB⟩ := hrel
               cases gk with
               | zero => exact absurd HA.out (by simp [arraslaw2_ShareLaws.l2])
               | succ k4 =>
                have H := HA.out
                clear HA
                simp only [arraslaw2_ShareLaws.l2] at H
                by_cases c16 : x11_4 < (t247.length : Int)
                ·rw [if_pos c16] at H
                 have c16b0 : decide (x11_4 < (t247.length : Int)) = true := decide_eq_true c16
                 clear c16
                 by_cases c17 : 0 ≤ x11_4
                 ·rw [if_pos c17] at H
                  have c17b0 : decide (0 ≤ x11_4) = true := decide_eq_true c17
                  clear c17
                  by_cases c18 : x11_4 < (((rd_T25 l0 x3_1).f1).length : Int)
                  ·rw [if_pos c18] at H
                   have c18b0 : decide (x11_4 < (((rd_T25 l0 x3_1).f1).length : Int)) = true := decide_eq_true c18
                   clear c18; have HC19 := Aside0.mk H; clear H; have p253 : 0 ≤ (x11_4 : Int) := of_decide_eq_true (by first | (with_reducible assumption) | assumption); have q253 : x11_4 < (t247.length : Int) := of_decide_eq_true (by first | (with_reducible assumption) | assumption); obtain ⟨ad253, e253, hx253_0⟩ := Kd.at_int (Kd.R_reads' HO_6.out).2.2 x11_4 p253 q253; cases e253; replace p253 := eq_true p253; replace q253 := eq_true q253; have p254 : 0 ≤ (x11_4 : Int) := of_decide_eq_true (by first | (with_reducible assumption) | assumption); have q254 : x11_4 < (t247.length : Int) := of_decide_eq_true (by first | (with_reducible assumption) | assumption); obtain ⟨ad254, e254, hx254_0⟩ := Kd.at_int (Kd.R_reads' HO_6.out).2.2 x11_4 p254 q254; obtain rfl : ad253 = ad254 := (by injection e254); replace p254 := eq_true p254; replace q254 := eq_true q254; have p255 : 0 ≤ (x11_4 : Int) := of_decide_eq_true (by first | (with_reducible assumption) | assumption); have q255 : x11_4 < (((rd_T25 l0 x3_1).f1).length : Int) := of_decide_eq_true (by first | (with_reducible assumption) | assumption); obtain ⟨ad255, e255, hx255_0⟩ := Kd.at_int HR245_1.out x11_4 p255 q255; cases e255
                   replace hx255_0 := (HB.out.cell (World.block_lt_of_cell? w _ hx255_0)).trans hx255_0
                   replace p255 := eq_true p255; replace q255 := eq_true q255
                   go_upto_region 21 with (fail)
                   repeat (go_quiet (fail); go_upto_region 21 with (fail))
                   go_cut [114] (fun v114 wc => ∃ (kq : Nat) (x114_18 : Bool), v114 = .bool x114_18 ∧ Aside0 (arraslaw2_ShareLaws.j4 kq l0 x3_1 ((rd_T25 l0 x3_1).f1) ((rd_T25 l0 x3_1).f0) t247 x8_3 (wrap64 (x9_4 + (rd t247 x11_4))) x11_4 x114_18 = some r) ∧ Aside0 (kq ≤ k4) ∧ Aside0 (Kd.R (Kd.int .i64) 3 wc w.heap.size (fun _ => True) (.slice (some ad253) t247.length co15) t247) ∧ Aside0 (Below w.heap.size w wc))
                   case first => as_aux_lemma =>
                    have H := HC19.out
                    clear HC19
                    by_cases c20 : (wrap64 ((wrap64 ((rd t247 x11_4) * x8_3)) - (wrap64 (((rd_T25 l0 x3_1).f0) * (rd ((rd_T25 l0 x3_1).f1) x11_4))))) ≤ (wrap64 (-x8_3))
                    ·rw [if_pos c20] at H
                     have c20b0 : decide ((wrap64 ((wrap64 ((rd t247 x11_4) * x8_3)) - (wrap64 (((rd_T25 l0 x3_1).f0) * (rd ((rd_T25 l0 x3_1).f1) x11_4))))) ≤ (wrap64 (-x8_3))) = true := decide_eq_true c20
                     clear c20
                     (first | rw [c20b0] | (simp only [i64_w, i32_w]; rw [c20b0]) | skip)
                     have H' := Aside0.mk H
                     clear H
                     go_wp2
                     repeat (go_quiet (fail); try go_wp2)
                     go_meet
                     case rel => exact ⟨_, (true), (by first | rfl | (simp; done) | (simp [*]; done)), H', ⟨by have := HK1.out; have := HJ1.out; have := HK3.out; have := HK4.out; first | omega | exact Nat.le_refl _⟩, ⟨by (with_reducible repeat (first | apply Kd.R_alloc | apply Kd.R_drewN | apply Kd.R_drew)); exact HO_6.out⟩, ⟨by repeat (first | (with_reducible first | exact HB.out | apply below_alloc | apply pw_below_drewN | apply below_drew1) | exact HB.out)⟩⟩
                    ·rw [if_neg c20] at H
                     have c20b0 : decide ((wrap64 ((wrap64 ((rd t247 x11_4) * x8_3)) - (wrap64 (((rd_T25 l0 x3_1).f0) * (rd ((rd_T25 l0 x3_1).f1) x11_4))))) ≤ (wrap64 (-x8_3))) = false := decide_eq_false c20
                     clear c20
                     (first | rw [c20b0] | (simp only [i64_w, i32_w]; rw [c20b0]) | skip)
                     by_cases c21 : (wrap64 ((wrap64 ((rd t247 x11_4) * x8_3)) - (wrap64 (((rd_T25 l0 x3_1).f0) * (rd ((rd_T25 l0 x3_1).f1) x11_4))))) ≥ x8_3
                     ·rw [if_pos c21] at H
                      have c21b0 : decide (x8_3 ≤ (wrap64 ((wrap64 ((rd t247 x11_4) * x8_3)) - (wrap64 (((rd_T25 l0 x3_1).f0) * (rd ((rd_T25 l0 x3_1).f1) x11_4)))))) = true := decide_eq_true c21
                      clear c21
                      have H' := Aside0.mk H
                      clear H
                      go_wp2
                      repeat (go_quiet (fail); try go_wp2)
                      go_meet
                      case rel => exact ⟨_, (true), (by first | rfl | (simp; done) | (simp [*]; done)), H', ⟨by have := HK1.out; have := HJ1.out; have := HK3.out; have := HK4.out; first | omega | exact Nat.le_refl _⟩, ⟨by (with_reducible repeat (first | apply Kd.R_alloc | apply Kd.R_drewN | apply Kd.R_drew)); exact HO_6.out⟩, ⟨by repeat (first | (with_reducible first | exact HB.out | apply below_alloc | apply pw_below_drewN | apply below_drew1) | exact HB.out)⟩⟩
                     ·rw [if_neg c21] at H
                      have c21b0 : decide (x8_3 ≤ (wrap64 ((wrap64 ((rd t247 x11_4) * x8_3)) - (wrap64 (((rd_T25 l0 x3_1).f0) * (rd ((rd_T25 l0 x3_1).f1) x11_4)))))) = false := decide_eq_false c21
                      clear c21
                      by_cases c22 : (rd ((rd_T25 l0 x3_1).f1) x11_4) = 0
                      ·rw [if_pos c22] at H
                       have c22b0 : ((rd ((rd_T25 l0 x3_1).f1) x11_4) == 0) = true := beq_iff_eq.mpr c22
                       have c22b1 : ((rd ((rd_T25 l0 x3_1).f1) x11_4) != 0) = false := bne_eq_false_iff_eq.mpr c22
                       clear c22
                       have H' := Aside0.mk H
                       clear H; have p256 : 0 ≤ (x11_4 : Int) := of_decide_eq_true (by first | (with_reducible assumption) | assumption); have q256 : x11_4 < (((rd_T25 l0 x3_1).f1).length : Int) := of_decide_eq_true (by first | (with_reducible assumption) | assumption); obtain ⟨ad256, e256, hx256_0⟩ := Kd.at_int HR245_1.out x11_4 p256 q256; obtain rfl : ad255 = ad256 := (by injection e256)
                       replace hx256_0 := (HB.out.cell (World.block_lt_of_cell? w _ hx256_0)).trans hx256_0
                       replace p256 := eq_true p256; replace q256 := eq_true q256; have p257 : 0 ≤ (x11_4 : Int) := of_decide_eq_true (by first | (with_reducible assumption) | assumption); have q257 : x11_4 < (t247.length : Int) := of_decide_eq_true (by first | (with_reducible assumption) | assumption); obtain ⟨ad257, e257, hx257_0⟩ := Kd.at_int (Kd.R_reads' HO_6.out).2.2 x11_4 p257 q257; obtain rfl : ad253 = ad257 := (by injection e257); replace p257 := eq_true p257; replace q257 := eq_true q257
                       go_wp2
                       repeat (go_quiet (fail); try go_wp2)
                       go_meet
                       case rel => exact ⟨_, (((rd t247 x11_4) != 0)), (by first | rfl | (simp; done) | (simp [*]; done)), H', ⟨by have := HK1.out; have := HJ1.out; have := HK3.out; have := HK4.out; first | omega | exact Nat.le_refl _⟩, ⟨by (with_reducible repeat (first | apply Kd.R_alloc | apply Kd.R_drewN | apply Kd.R_drew)); exact HO_6.out⟩, ⟨by repeat (first | (with_reducible first | exact HB.out | apply below_alloc | apply pw_below_drewN | apply below_drew1) | exact HB.out)⟩⟩
                      ·rw [if_neg c22] at H
                       have c22b0 : ((rd ((rd_T25 l0 x3_1).f1) x11_4) == 0) = false := beq_eq_false_iff_ne.mpr c22
                       have c22b1 : ((rd ((rd_T25 l0 x3_1).f1) x11_4) != 0) = true := bne_iff_ne.mpr c22
                       have H' := Aside0.mk H
                       clear H; have p256 : 0 ≤ (x11_4 : Int) := of_decide_eq_true (by first | (with_reducible assumption) | assumption); have q256 : x11_4 < (((rd_T25 l0 x3_1).f1).length : Int) := of_decide_eq_true (by first | (with_reducible assumption) | assumption); obtain ⟨ad256, e256, hx256_0⟩ := Kd.at_int HR245_1.out x11_4 p256 q256; obtain rfl : ad255 = ad256 := (by injection e256)
                       replace hx256_0 := (HB.out.cell (World.block_lt_of_cell? w _ hx256_0)).trans hx256_0
                       replace p256 := eq_true p256; replace q256 := eq_true q256
                       go_wp2
                       repeat (go_quiet (fail); try go_wp2)
                       go_meet
                       case rel => exact ⟨_, (false), (by first | rfl | (simp; done) | (simp [*]; done)), H', ⟨by have := HK1.out; have := HJ1.out; have := HK3.out; have := HK4.out; first | omega | exact Nat.le_refl _⟩, ⟨by (with_reducible repeat (first | apply Kd.R_alloc | apply Kd.R_drewN | apply Kd.R_drew)); exact HO_6.out⟩, ⟨by repeat (first | (with_reducible first | exact HB.out | apply below_alloc | apply pw_below_drewN | apply below_drew1) | exact HB.out)⟩⟩
                   case rest => as_aux_lemma =>
                    clear HC19
                    try clear c1
                    try clear c2
                    try clear p2
                    try clear q2
                    try clear hx2
                    try clear c3
                    try clear c3b0
                    try clear c4
                    try clear c5
                    try clear c5b0
                    try clear c6
                    try clear c6b0
                    try clear p6
                    try clear c7
                    try clear c7b0
                    try clear c7b1
                    try clear c10
                    try clear c10b0
                    try clear c10b1
                    try clear c12
                    try clear c12b0
                    try clear c13
                    try clear c13b0
                    try clear c14
                    try clear c14b0
                    try clear c14b1
                    try clear c14b2
                    try clear c16
                    try clear c16b0
                    try clear c17
                    try clear c17b0
                    try clear c18
                    try clear c18b0
                    try clear c20
                    try clear c20b0
                    try clear c21
                    try clear c21b0
                    try clear c22
                    try clear c22b0
                    try clear c22b1
                    try clear hx244_0
                    try clear hx244_1
                    try clear hx245_0
                    try clear hx245_1
                    try clear hx246_0
                    try clear hx246_1
                    try clear hx252_0
                    try clear hx253_0
                    try clear hx254_0
                    try clear hx255_0
                    try clear hx256_0
                    try clear hx257_0
                    try clear p2
                    try clear p244
                    try clear p245
                    try clear p246
                    try clear p252
                    try clear p253
                    try clear p254
                    try clear p255
                    try clear p256
                    try clear p257
                    try clear p6
                    try clear q2
                    try clear q244
                    try clear q245
                    try clear q246
                    try clear q252
                    try clear q253
                    try clear q254
                    try clear q255
                    try clear q256
                    try clear q257
                    obtain ⟨kq, x114_18, rfl, HA, HJ18, HO_6, HB⟩ := hcut
                    cases kq with
                    | zero => exact absurd HA.out (by simp [arraslaw2_ShareLaws.j4])
                    | succ kj18 =>
                     have H := HA.out
                     clear HA
                     simp only [arraslaw2_ShareLaws.j4] at H
                     by_cases c23 : x114_18 = true
                     ·subst c23
                      have H1 : (some false) = some r := by rw [if_pos rfl] at H; exact H
                      clear H; have H := H1; clear H1
                      obtain rfl := Option.some.inj H
                      go_wp2
                      repeat (go_quiet (fail); try go_wp2)
                      go_ret
                      exact ⟨by first | rfl | (simp [errW_none, errW_some] <;> rfl) | (simp [*, errW_none, errW_some] <;> rfl), by repeat (first | (with_reducible first | exact HB.out | apply below_alloc | apply pw_below_drewN | apply below_drew1) | exact HB.out)⟩
                     ·replace c23 := Bool.eq_false_iff.mpr c23
                      subst c23
                      have H1 : (arraslaw2_ShareLaws.l3 kj18 l0 x3_1 ((rd_T25 l0 x3_1).f1) ((rd_T25 l0 x3_1).f0) t247 x8_3 (wrap64 (x9_4 + (rd t247 x11_4))) x11_4 0) = some r := by rw [if_neg (show ¬ (false = true) by decide)] at H; exact H
                      clear H; have H := H1; clear H1
                      have H' := Aside0.mk H
                      clear H
                      go_wp2
                      repeat (go_quiet (fail); try go_wp2)
                      go_loopg [13] kj18 (fun kq v13 w' => ∃ (x13_6 : Int), v13 = .int .i64 x13_6 ∧ Aside0 (arraslaw2_ShareLaws.l3 kq l0 x3_1 ((rd_T25 l0 x3_1).f1) ((rd_T25 l0 x3_1).f0) t247 x8_3 (wrap64 (x9_4 + (rd t247 x11_4))) x11_4 x13_6 = some r) ∧ Aside0 (kq ≤ kj18) ∧ Aside0 (Kd.R (Kd.int .i64) 3 w' w.heap.size (fun _ => True) (.slice (some ad253) t247.length co15) t247) ∧ Aside0 (Below w.heap.size w w'))
                      case atStart => exact ⟨(0), (by first | rfl | (simp; done) | (simp [*]; done)), H', ⟨Nat.le_refl _⟩, ⟨by (with_reducible repeat (first | apply Kd.R_alloc | apply Kd.R_drewN | apply Kd.R_drew)); exact HO_6.out⟩, ⟨by repeat (first | (with_reducible first | exact HB.out | apply below_alloc | apply pw_below_drewN | apply below_drew1) | exact HB.out)⟩⟩
                      case round => as_aux_lemma =>
                       clear H'
                       try clear c1
                       try clear c2
                       try clear p2
                       try clear q2
                       try clear hx2
                       try clear c3
                       try clear c3b0
                       try clear c4
                       try clear c5
                       try clear c5b0
                       try clear c6
                       try clear c6b0
                       try clear p6
                       try clear c7
                       try clear c7b0
                       try clear c7b1
                       try clear c10
                       try clear c10b0
                       try clear c10b1
                       try clear c12
                       try clear c12b0
                       try clear c13
                       try clear c13b0
                       try clear c14
                       try clear c14b0
                       try clear c14b1
                       try clear c14b2
                       try clear c16
                       try clear c16b0
                       try clear c17
                       try clear c17b0
                       try clear c18
                       try clear c18b0
                       try clear c20
                       try clear c20b0
                       try clear c21
                       try clear c21b0
                       try clear c22
                       try clear c22b0
                       try clear c22b1
                       try clear c23
                       try clear hx244_0
                       try clear hx244_1
                       try clear hx245_0
                       try clear hx245_1
                       try clear hx246_0
                       try clear hx246_1
                       try clear hx252_0
                       try clear hx253_0
                       try clear hx254_0
                       try clear hx255_0
                       try clear hx256_0
                       try clear hx257_0
                       try clear p2
                       try clear p244
                       try clear p245
                       try clear p246
                       try clear p252
                       try clear p253
                       try clear p254
                       try clear p255
                       try clear p256
                       try clear p257
                       try clear p6
                       try clear q2
                       try clear q244
                       try clear q245
                       try clear q246
                       try clear q252
                       try clear q253
                       try clear q254
                       try clear q255
                       try clear q256
                       try clear q257
                       obtain ⟨x13_6, rfl, HA, HK6, HO_6, HB⟩ := hrel
                       cases gk with
                       | zero => exact absurd HA.out (by simp [arraslaw2_ShareLaws.l3])
                       | succ k6 =>
                        have H := HA.out
                        clear HA
                        simp only [arraslaw2_ShareLaws.l3] at H
                        by_cases c24 : x13_6 < x11_4
                        ·rw [if_pos c24] at H
                         have c24b0 : decide (x13_6 < x11_4) = true := decide_eq_true c24
                         clear c24
                         by_cases c25 : 0 ≤ x13_6
                         ·rw [if_pos c25] at H
                          have c25b0 : decide (0 ≤ x13_6) = true := decide_eq_true c25
                          clear c25
                          by_cases c26 : x13_6 < (((rd_T25 l0 x3_1).f1).length : Int)
                          ·rw [if_pos c26] at H
                           have c26b0 : decide (x13_6 < (((rd_T25 l0 x3_1).f1).length : Int)) = true := decide_eq_true c26
                           clear c26
                           by_cases c27 : 0 ≤ x11_4
                           ·rw [if_pos c27] at H
                            have c27b0 : decide (0 ≤ x11_4) = true := decide_eq_true c27
                            clear c27
                            by_cases c28 : x11_4 < (((rd_T25 l0 x3_1).f1).length : Int)
                            ·rw [if_pos c28] at H
                             have c28b0 : decide (x11_4 < (((rd_T25 l0 x3_1).f1).length : Int)) = true := decide_eq_true c28
                             clear c28
                             by_cases c29 : (rd ((rd_T25 l0 x3_1).f1) x13_6) > (rd ((rd_T25 l0 x3_1).f1) x11_4)
                             ·rw [if_pos c29] at H
                              have c29b0 : decide ((rd ((rd_T25 l0 x3_1).f1) x11_4) < (rd ((rd_T25 l0 x3_1).f1) x13_6)) = true := decide_eq_true c29
                              clear c29
                              by_cases c30 : x13_6 < (t247.length : Int)
                              ·rw [if_pos c30] at H
                               have c30b0 : decide (x13_6 < (t247.length : Int)) = true := decide_eq_true c30
                               clear c30
                               by_cases c31 : x11_4 < (t247.length : Int)
                               ·rw [if_pos c31] at H
                                have c31b0 : decide (x11_4 < (t247.length : Int)) = true := decide_eq_true c31
                                clear c31
                                by_cases c32 : (rd t247 x13_6) < (rd t247 x11_4)
                                ·rw [if_pos c32] at H
                                 have c32b0 : decide ((rd t247 x13_6) < (rd t247 x11_4)) = true := decide_eq_true c32
                                 clear c32
                                 obtain rfl := Option.some.inj H
                                 have p258 : 0 ≤ (x13_6 : Int) := of_decide_eq_true (by first | (with_reducible assumption) | assumption); have q258 : x13_6 < (((rd_T25 l0 x3_1).f1).length : Int) := of_decide_eq_true (by first | (with_reducible assumption) | assumption); obtain ⟨ad258, e258, hx258_0⟩ := Kd.at_int HR245_1.out x13_6 p258 q258; obtain rfl : ad255 = ad258 := (by injection e258)
                                 replace hx258_0 := (HB.out.cell (World.block_lt_of_cell? w _ hx258_0)).trans hx258_0
                                 replace p258 := eq_true p258; replace q258 := eq_true q258; have p259 : 0 ≤ (x11_4 : Int) := of_decide_eq_true (by first | (with_reducible assumption) | assumption); have q259 : x11_4 < (((rd_T25 l0 x3_1).f1).length : Int) := of_decide_eq_true (by first | (with_reducible assumption) | assumption); obtain ⟨ad259, e259, hx259_0⟩ := Kd.at_int HR245_1.out x11_4 p259 q259; obtain rfl : ad255 = ad259 := (by injection e259)
                                 replace hx259_0 := (HB.out.cell (World.block_lt_of_cell? w _ hx259_0)).trans hx259_0
                                 replace p259 := eq_true p259; replace q259 := eq_true q259; have p260 : 0 ≤ (x13_6 : Int) := of_decide_eq_true (by first | (with_reducible assumption) | assumption); have q260 : x13_6 < (t247.length : Int) := of_decide_eq_true (by first | (with_reducible assumption) | assumption); obtain ⟨ad260, e260, hx260_0⟩ := Kd.at_int (Kd.R_reads' HO_6.out).2.2 x13_6 p260 q260; obtain rfl : ad253 = ad260 := (by injection e260); replace p260 := eq_true p260; replace q260 := eq_true q260; have p261 : 0 ≤ (x11_4 : Int) := of_decide_eq_true (by first | (with_reducible assumption) | assumption); have q261 : x11_4 < (t247.length : Int) := of_decide_eq_true (by first | (with_reducible assumption) | assumption); obtain ⟨ad261, e261, hx261_0⟩ := Kd.at_int (Kd.R_reads' HO_6.out).2.2 x11_4 p261 q261; obtain rfl : ad253 = ad261 := (by injection e261); replace p261 := eq_true p261; replace q261 := eq_true q261
                                 go_wp2
                                 repeat (go_quiet (fail); try go_wp2)
                                 go_ret
                                 exact ⟨by first | rfl | (simp [errW_none, errW_some] <;> rfl) | (simp [*, errW_none, errW_some] <;> rfl), by repeat (first | (with_reducible first | exact HB.out | apply below_alloc | apply pw_below_drewN | apply below_drew1) | exact HB.out)⟩
                                ·rw [if_neg c32] at H
                                 have c32b0 : decide ((rd t247 x13_6) < (rd t247 x11_4)) = false := decide_eq_false c32
                                 clear c32
                                 by_cases c33 : (rd ((rd_T25 l0 x3_1).f1) x13_6) < (rd ((rd_T25 l0 x3_1).f1) x11_4)
                                 ·rw [if_pos c33] at H
                                  have c33b0 : decide ((rd ((rd_T25 l0 x3_1).f1) x13_6) < (rd ((rd_T25 l0 x3_1).f1) x11_4)) = true := decide_eq_true c33
                                  clear c33
                                  by_cases c34 : (rd t247 x13_6) > (rd t247 x11_4)
                                  ·rw [if_pos c34] at H
                                   have c34b0 : decide ((rd t247 x11_4) < (rd t247 x13_6)) = true := decide_eq_true c34
                                   clear c34
                                   obtain rfl := Option.some.inj H
                                   have p258 : 0 ≤ (x13_6 : Int) := of_decide_eq_true (by first | (with_reducible assumption) | assumption); have q258 : x13_6 < (((rd_T25 l0 x3_1).f1).length : Int) := of_decide_eq_true (by first | (with_reducible assumption) | assumption); obtain ⟨ad258, e258, hx258_0⟩ := Kd.at_int HR245_1.out x13_6 p258 q258; obtain rfl : ad255 = ad258 := (by injection e258)
                                   replace hx258_0 := (HB.out.cell (World.block_lt_of_cell? w _ hx258_0)).trans hx258_0
                                   replace p258 := eq_true p258; replace q258 := eq_true q258; have p259 : 0 ≤ (x11_4 : Int) := of_decide_eq_true (by first | (with_reducible assumption) | assumption); have q259 : x11_4 < (((rd_T25 l0 x3_1).f1).length : Int) := of_decide_eq_true (by first | (with_reducible assumption) | assumption); obtain ⟨ad259, e259, hx259_0⟩ := Kd.at_int HR245_1.out x11_4 p259 q259; obtain rfl : ad255 = ad259 := (by injection e259)
                                   replace hx259_0 := (HB.out.cell (World.block_lt_of_cell? w _ hx259_0)).trans hx259_0
                                   replace p259 := eq_true p259; replace q259 := eq_true q259; have p260 : 0 ≤ (x13_6 : Int) := of_decide_eq_true (by first | (with_reducible assumption) | assumption); have q260 : x13_6 < (t247.length : Int) := of_decide_eq_true (by first | (with_reducible assumption) | assumption); obtain ⟨ad260, e260, hx260_0⟩ := Kd.at_int (Kd.R_reads' HO_6.out).2.2 x13_6 p260 q260; obtain rfl : ad253 = ad260 := (by injection e260); replace p260 := eq_true p260; replace q260 := eq_true q260; have p261 : 0 ≤ (x11_4 : Int) := of_decide_eq_true (by first | (with_reducible assumption) | assumption); have q261 : x11_4 < (t247.length : Int) := of_decide_eq_true (by first | (with_reducible assumption) | assumption); obtain ⟨ad261, e261, hx261_0⟩ := Kd.at_int (Kd.R_reads' HO_6.out).2.2 x11_4 p261 q261; obtain rfl : ad253 = ad261 := (by injection e261); replace p261 := eq_true p261; replace q261 := eq_true q261; have p262 : 0 ≤ (x13_6 : Int) := of_decide_eq_true (by first | (with_reducible assumption) | assumption); have q262 : x13_6 < (((rd_T25 l0 x3_1).f1).length : Int) := of_decide_eq_true (by first | (with_reducible assumption) | assumption); obtain ⟨ad262, e262, hx262_0⟩ := Kd.at_int HR245_1.out x13_6 p262 q262; obtain rfl : ad255 = ad262 := (by injection e262)
                                   replace hx262_0 := (HB.out.cell (World.block_lt_of_cell? w _ hx262_0)).trans hx262_0
                                   replace p262 := eq_true p262; replace q262 := eq_true q262; have p263 : 0 ≤ (x11_4 : Int) := of_decide_eq_true (by first | (with_reducible assumption) | assumption); have q263 : x11_4 < (((rd_T25 l0 x3_1).f1).length : Int) := of_decide_eq_true (by first | (with_reducible assumption) | assumption); obtain ⟨ad263, e263, hx263_0⟩ := Kd.at_int HR245_1.out x11_4 p263 q263; obtain rfl : ad255 = ad263 := (by injection e263)
                                   replace hx263_0 := (HB.out.cell (World.block_lt_of_cell? w _ hx263_0)).trans hx263_0
                                   replace p263 := eq_true p263; replace q263 := eq_true q263; have p264 : 0 ≤ (x13_6 : Int) := of_decide_eq_true (by first | (with_reducible assumption) | assumption); have q264 : x13_6 < (t247.length : Int) := of_decide_eq_true (by first | (with_reducible assumption) | assumption); obtain ⟨ad264, e264, hx264_0⟩ := Kd.at_int (Kd.R_reads' HO_6.out).2.2 x13_6 p264 q264; obtain rfl : ad253 = ad264 := (by injection e264); replace p264 := eq_true p264; replace q264 := eq_true q264; have p265 : 0 ≤ (x11_4 : Int) := of_decide_eq_true (by first | (with_reducible assumption) | assumption); have q265 : x11_4 < (t247.length : Int) := of_decide_eq_true (by first | (with_reducible assumption) | assumption); obtain ⟨ad265, e265, hx265_0⟩ := Kd.at_int (Kd.R_reads' HO_6.out).2.2 x11_4 p265 q265; obtain rfl : ad253 = ad265 := (by injection e265); replace p265 := eq_true p265; replace q265 := eq_true q265
                                   go_wp2
                                   repeat (go_quiet (fail); try go_wp2)
                                   go_ret
                                   exact ⟨by first | rfl | (simp [errW_none, errW_some] <;> rfl) | (simp [*, errW_none, errW_some] <;> rfl), by repeat (first | (with_reducible first | exact HB.out | apply below_alloc | apply pw_below_drewN | apply below_drew1) | exact HB.out)⟩
                                  ·rw [if_neg c34] at H
                                   have c34b0 : decide ((rd t247 x11_4) < (rd t247 x13_6)) = false := decide_eq_false c34
                                   clear c34
                                   by_cases c35 : (rd ((rd_T25 l0 x3_1).f1) x13_6) = (rd ((rd_T25 l0 x3_1).f1) x11_4)
                                   ·rw [if_pos c35] at H
                                    have c35b0 : ((rd ((rd_T25 l0 x3_1).f1) x13_6) == (rd ((rd_T25 l0 x3_1).f1) x11_4)) = true := beq_iff_eq.mpr c35
                                    have c35b1 : ((rd ((rd_T25 l0 x3_1).f1) x13_6) != (rd ((rd_T25 l0 x3_1).f1) x11_4)) = false := bne_eq_false_iff_eq.mpr c35
                                    clear c35
                                    by_cases c36 : (rd t247 x13_6) > (wrap64 ((rd t247 x11_4) + 1))
                                    ·rw [if_pos c36] at H
                                     have c36b0 : decide ((wrap64 ((rd t247 x11_4) + 1)) < (rd t247 x13_6)) = true := decide_eq_true c36
                                     clear c36
                                     obtain rfl := Option.some.inj H
                                     have p258 : 0 ≤ (x13_6 : Int) := of_decide_eq_true (by first | (with_reducible assumption) | assumption); have q258 : x13_6 < (((rd_T25 l0 x3_1).f1).length : Int) := of_decide_eq_true (by first | (with_reducible assumption) | assumption); obtain ⟨ad258, e258, hx258_0⟩ := Kd.at_int HR245_1.out x13_6 p258 q258; obtain rfl : ad255 = ad258 := (by injection e258)
                                     replace hx258_0 := (HB.out.cell (World.block_lt_of_cell? w _ hx258_0)).trans hx258_0
                                     replace p258 := eq_true p258; replace q258 := eq_true q258; have p259 : 0 ≤ (x11_4 : Int) := of_decide_eq_true (by first | (with_reducible assumption) | assumption); have q259 : x11_4 < (((rd_T25 l0 x3_1).f1).length : Int) := of_decide_eq_true (by first | (with_reducible assumption) | assumption); obtain ⟨ad259, e259, hx259_0⟩ := Kd.at_int HR245_1.out x11_4 p259 q259; obtain rfl : ad255 = ad259 := (by injection e259)
                                     replace hx259_0 := (HB.out.cell (World.block_lt_of_cell? w _ hx259_0)).trans hx259_0
                                     replace p259 := eq_true p259; replace q259 := eq_true q259; have p260 : 0 ≤ (x13_6 : Int) := of_decide_eq_true (by first | (with_reducible assumption) | assumption); have q260 : x13_6 < (t247.length : Int) := of_decide_eq_true (by first | (with_reducible assumption) | assumption); obtain ⟨ad260, e260, hx260_0⟩ := Kd.at_int (Kd.R_reads' HO_6.out).2.2 x13_6 p260 q260; obtain rfl : ad253 = ad260 := (by injection e260); replace p260 := eq_true p260; replace q260 := eq_true q260; have p261 : 0 ≤ (x11_4 : Int) := of_decide_eq_true (by first | (with_reducible assumption) | assumption); have q261 : x11_4 < (t247.length : Int) := of_decide_eq_true (by first | (with_reducible assumption) | assumption); obtain ⟨ad261, e261, hx261_0⟩ := Kd.at_int (Kd.R_reads' HO_6.out).2.2 x11_4 p261 q261; obtain rfl : ad253 = ad261 := (by injection e261); replace p261 := eq_true p261; replace q261 := eq_true q261; have p262 : 0 ≤ (x13_6 : Int) := of_decide_eq_true (by first | (with_reducible assumption) | assumption); have q262 : x13_6 < (((rd_T25 l0 x3_1).f1).length : Int) := of_decide_eq_true (by first | (with_reducible assumption) | assumption); obtain ⟨ad262, e262, hx262_0⟩ := Kd.at_int HR245_1.out x13_6 p262 q262; obtain rfl : ad255 = ad262 := (by injection e262)
                                     replace hx262_0 := (HB.out.cell (World.block_lt_of_cell? w _ hx262_0)).trans hx262_0
                                     replace p262 := eq_true p262; replace q262 := eq_true q262; have p263 : 0 ≤ (x11_4 : Int) := of_decide_eq_true (by first | (with_reducible assumption) | assumption); have q263 : x11_4 < (((rd_T25 l0 x3_1).f1).length : Int) := of_decide_eq_true (by first | (with_reducible assumption) | assumption); obtain ⟨ad263, e263, hx263_0⟩ := Kd.at_int HR245_1.out x11_4 p263 q263; obtain rfl : ad255 = ad263 := (by injection e263)
                                     replace hx263_0 := (HB.out.cell (World.block_lt_of_cell? w _ hx263_0)).trans hx263_0
                                     replace p263 := eq_true p263; replace q263 := eq_true q263; have p264 : 0 ≤ (x13_6 : Int) := of_decide_eq_true (by first | (with_reducible assumption) | assumption); have q264 : x13_6 < (t247.length : Int) := of_decide_eq_true (by first | (with_reducible assumption) | assumption); obtain ⟨ad264, e264, hx264_0⟩ := Kd.at_int (Kd.R_reads' HO_6.out).2.2 x13_6 p264 q264; obtain rfl : ad253 = ad264 := (by injection e264); replace p264 := eq_true p264; replace q264 := eq_true q264; have p265 : 0 ≤ (x11_4 : Int) := of_decide_eq_true (by first | (with_reducible assumption) | assumption); have q265 : x11_4 < (t247.length : Int) := of_decide_eq_true (by first | (with_reducible assumption) | assumption); obtain ⟨ad265, e265, hx265_0⟩ := Kd.at_int (Kd.R_reads' HO_6.out).2.2 x11_4 p265 q265; obtain rfl : ad253 = ad265 := (by injection e265); replace p265 := eq_true p265; replace q265 := eq_true q265; have p266 : 0 ≤ (x13_6 : Int) := of_decide_eq_true (by first | (with_reducible assumption) | assumption); have q266 : x13_6 < (((rd_T25 l0 x3_1).f1).length : Int) := of_decide_eq_true (by first | (with_reducible assumption) | assumption); obtain ⟨ad266, e266, hx266_0⟩ := Kd.at_int HR245_1.out x13_6 p266 q266; obtain rfl : ad255 = ad266 := (by injection e266)
                                     replace hx266_0 := (HB.out.cell (World.block_lt_of_cell? w _ hx266_0)).trans hx266_0
                                     replace p266 := eq_true p266; replace q266 := eq_true q266; have p267 : 0 ≤ (x11_4 : Int) := of_decide_eq_true (by first | (with_reducible assumption) | assumption); have q267 : x11_4 < (((rd_T25 l0 x3_1).f1).length : Int) := of_decide_eq_true (by first | (with_reducible assumption) | assumption); obtain ⟨ad267, e267, hx267_0⟩ := Kd.at_int HR245_1.out x11_4 p267 q267; obtain rfl : ad255 = ad267 := (by injection e267)
                                     replace hx267_0 := (HB.out.cell (World.block_lt_of_cell? w _ hx267_0)).trans hx267_0
                                     replace p267 := eq_true p267; replace q267 := eq_true q267; have p268 : 0 ≤ (x13_6 : Int) := of_decide_eq_true (by first | (with_reducible assumption) | assumption); have q268 : x13_6 < (t247.length : Int) := of_decide_eq_true (by first | (with_reducible assumption) | assumption); obtain ⟨ad268, e268, hx268_0⟩ := Kd.at_int (Kd.R_reads' HO_6.out).2.2 x13_6 p268 q268; obtain rfl : ad253 = ad268 := (by injection e268); replace p268 := eq_true p268; replace q268 := eq_true q268; have p269 : 0 ≤ (x11_4 : Int) := of_decide_eq_true (by first | (with_reducible assumption) | assumption); have q269 : x11_4 < (t247.length : Int) := of_decide_eq_true (by first | (with_reducible assumption) | assumption); obtain ⟨ad269, e269, hx269_0⟩ := Kd.at_int (Kd.R_reads' HO_6.out).2.2 x11_4 p269 q269; obtain rfl : ad253 = ad269 := (by injection e269); replace p269 := eq_true p269; replace q269 := eq_true q269; have p270 : 0 ≤ (x13_6 : Int) := of_decide_eq_true (by first | (with_reducible assumption) | assumption); have q270 : x13_6 < (t247.length : Int) := of_decide_eq_true (by first | (with_reducible assumption) | assumption); obtain ⟨ad270, e270, hx270_0⟩ := Kd.at_int (Kd.R_reads' HO_6.out).2.2 x13_6 p270 q270; obtain rfl : ad253 = ad270 := (by injection e270); replace p270 := eq_true p270; replace q270 := eq_true q270; have p271 : 0 ≤ (x11_4 : Int) := of_decide_eq_true (by first | (with_reducible assumption) | assumption); have q271 : x11_4 < (t247.length : Int) := of_decide_eq_true (by first | (with_reducible assumption) | assumption); obtain ⟨ad271, e271, hx271_0⟩ := Kd.at_int (Kd.R_reads' HO_6.out).2.2 x11_4 p271 q271; obtain rfl : ad253 = ad271 := (by injection e271); replace p271 := eq_true p271; replace q271 := eq_true q271
                                     go_wp2
                                     repeat (go_quiet (fail); try go_wp2)
                                     go_ret
                                     exact ⟨by first | rfl | (simp [errW_none, errW_some] <;> rfl) | (simp [*, errW_none, errW_some] <;> rfl), by repeat (first | (with_reducible first | exact HB.out | apply below_alloc | apply pw_below_drewN | apply below_drew1) | exact HB.out)⟩
                                    ·rw [if_neg c36] at H
                                     have c36b0 : decide ((wrap64 ((rd t247 x11_4) + 1)) < (rd t247 x13_6)) = false := decide_eq_false c36
                                     clear c36
                                     have H' := Aside0.mk H
                                     clear H; have p258 : 0 ≤ (x13_6 : Int) := of_decide_eq_true (by first | (with_reducible assumption) | assumption); have q258 : x13_6 < (((rd_T25 l0 x3_1).f1).length : Int) := of_decide_eq_true (by first | (with_reducible assumption) | assumption); obtain ⟨ad258, e258, hx258_0⟩ := Kd.at_int HR245_1.out x13_6 p258 q258; obtain rfl : ad255 = ad258 := (by injection e258)
                                     replace hx258_0 := (HB.out.cell (World.block_lt_of_cell? w _ hx258_0)).trans hx258_0
                                     replace p258 := eq_true p258; replace q258 := eq_true q258; have p259 : 0 ≤ (x11_4 : Int) := of_decide_eq_true (by first | (with_reducible assumption) | assumption); have q259 : x11_4 < (((rd_T25 l0 x3_1).f1).length : Int) := of_decide_eq_true (by first | (with_reducible assumption) | assumption); obtain ⟨ad259, e259, hx259_0⟩ := Kd.at_int HR245_1.out x11_4 p259 q259; obtain rfl : ad255 = ad259 := (by injection e259)
                                     replace hx259_0 := (HB.out.cell (World.block_lt_of_cell? w _ hx259_0)).trans hx259_0
                                     replace p259 := eq_true p259; replace q259 := eq_true q259; have p260 : 0 ≤ (x13_6 : Int) := of_decide_eq_true (by first | (with_reducible assumption) | assumption); have q260 : x13_6 < (t247.length : Int) := of_decide_eq_true (by first | (with_reducible assumption) | assumption); obtain ⟨ad260, e260, hx260_0⟩ := Kd.at_int (Kd.R_reads' HO_6.out).2.2 x13_6 p260 q260; obtain rfl : ad253 = ad260 := (by injection e260); replace p260 := eq_true p260; replace q260 := eq_true q260; have p261 : 0 ≤ (x11_4 : Int) := of_decide_eq_true (by first | (with_reducible assumption) | assumption); have q261 : x11_4 < (t247.length : Int) := of_decide_eq_true (by first | (with_reducible assumption) | assumption); obtain ⟨ad261, e261, hx261_0⟩ := Kd.at_int (Kd.R_reads' HO_6.out).2.2 x11_4 p261 q261; obtain rfl : ad253 = ad261 := (by injection e261); replace p261 := eq_true p261; replace q261 := eq_true q261; have p262 : 0 ≤ (x13_6 : Int) := of_decide_eq_true (by first | (with_reducible assumption) | assumption); have q262 : x13_6 < (((rd_T25 l0 x3_1).f1).length : Int) := of_decide_eq_true (by first | (with_reducible assumption) | assumption); obtain ⟨ad262, e262, hx262_0⟩ := Kd.at_int HR245_1.out x13_6 p262 q262; obtain rfl : ad255 = ad262 := (by injection e262)
                                     replace hx262_0 := (HB.out.cell (World.block_lt_of_cell? w _ hx262_0)).trans hx262_0
                                     replace p262 := eq_true p262; replace q262 := eq_true q262; have p263 : 0 ≤ (x11_4 : Int) := of_decide_eq_true (by first | (with_reducible assumption) | assumption); have q263 : x11_4 < (((rd_T25 l0 x3_1).f1).length : Int) := of_decide_eq_true (by first | (with_reducible assumption) | assumption); obtain ⟨ad263, e263, hx263_0⟩ := Kd.at_int HR245_1.out x11_4 p263 q263; obtain rfl : ad255 = ad263 := (by injection e263)
                                     replace hx263_0 := (HB.out.cell (World.block_lt_of_cell? w _ hx263_0)).trans hx263_0
                                     replace p263 := eq_true p263; replace q263 := eq_true q263; have p264 : 0 ≤ (x13_6 : Int) := of_decide_eq_true (by first | (with_reducible assumption) | assumption); have q264 : x13_6 < (t247.length : Int) := of_decide_eq_true (by first | (with_reducible assumption) | assumption); obtain ⟨ad264, e264, hx264_0⟩ := Kd.at_int (Kd.R_reads' HO_6.out).2.2 x13_6 p264 q264; obtain rfl : ad253 = ad264 := (by injection e264); replace p264 := eq_true p264; replace q264 := eq_true q264; have p265 : 0 ≤ (x11_4 : Int) := of_decide_eq_true (by first | (with_reducible assumption) | assumption); have q265 : x11_4 < (t247.length : Int) := of_decide_eq_true (by first | (with_reducible assumption) | assumption); obtain ⟨ad265, e265, hx265_0⟩ := Kd.at_int (Kd.R_reads' HO_6.out).2.2 x11_4 p265 q265; obtain rfl : ad253 = ad265 := (by injection e265); replace p265 := eq_true p265; replace q265 := eq_true q265; have p266 : 0 ≤ (x13_6 : Int) := of_decide_eq_true (by first | (with_reducible assumption) | assumption); have q266 : x13_6 < (((rd_T25 l0 x3_1).f1).length : Int) := of_decide_eq_true (by first | (with_reducible assumption) | assumption); obtain ⟨ad266, e266, hx266_0⟩ := Kd.at_int HR245_1.out x13_6 p266 q266; obtain rfl : ad255 = ad266 := (by injection e266)
                                     replace hx266_0 := (HB.out.cell (World.block_lt_of_cell? w _ hx266_0)).trans hx266_0
                                     replace p266 := eq_true p266; replace q266 := eq_true q266; have p267 : 0 ≤ (x11_4 : Int) := of_decide_eq_true (by first | (with_reducible assumption) | assumption); have q267 : x11_4 < (((rd_T25 l0 x3_1).f1).length : Int) := of_decide_eq_true (by first | (with_reducible assumption) | assumption); obtain ⟨ad267, e267, hx267_0⟩ := Kd.at_int HR245_1.out x11_4 p267 q267; obtain rfl : ad255 = ad267 := (by injection e267)
                                     replace hx267_0 := (HB.out.cell (World.block_lt_of_cell? w _ hx267_0)).trans hx267_0
                                     replace p267 := eq_true p267; replace q267 := eq_true q267; have p268 : 0 ≤ (x13_6 : Int) := of_decide_eq_true (by first | (with_reducible assumption) | assumption); have q268 : x13_6 < (t247.length : Int) := of_decide_eq_true (by first | (with_reducible assumption) | assumption); obtain ⟨ad268, e268, hx268_0⟩ := Kd.at_int (Kd.R_reads' HO_6.out).2.2 x13_6 p268 q268; obtain rfl : ad253 = ad268 := (by injection e268); replace p268 := eq_true p268; replace q268 := eq_true q268; have p269 : 0 ≤ (x11_4 : Int) := of_decide_eq_true (by first | (with_reducible assumption) | assumption); have q269 : x11_4 < (t247.length : Int) := of_decide_eq_true (by first | (with_reducible assumption) | assumption); obtain ⟨ad269, e269, hx269_0⟩ := Kd.at_int (Kd.R_reads' HO_6.out).2.2 x11_4 p269 q269; obtain rfl : ad253 = ad269 := (by injection e269); replace p269 := eq_true p269; replace q269 := eq_true q269; have p270 : 0 ≤ (x13_6 : Int) := of_decide_eq_true (by first | (with_reducible assumption) | assumption); have q270 : x13_6 < (t247.length : Int) := of_decide_eq_true (by first | (with_reducible assumption) | assumption); obtain ⟨ad270, e270, hx270_0⟩ := Kd.at_int (Kd.R_reads' HO_6.out).2.2 x13_6 p270 q270; obtain rfl : ad253 = ad270 := (by injection e270); replace p270 := eq_true p270; replace q270 := eq_true q270; have p271 : 0 ≤ (x11_4 : Int) := of_decide_eq_true (by first | (with_reducible assumption) | assumption); have q271 : x11_4 < (t247.length : Int) := of_decide_eq_true (by first | (with_reducible assumption) | assumption); obtain ⟨ad271, e271, hx271_0⟩ := Kd.at_int (Kd.R_reads' HO_6.out).2.2 x11_4 p271 q271; obtain rfl : ad253 = ad271 := (by injection e271); replace p271 := eq_true p271; replace q271 := eq_true q271
                                     go_wp2
                                     repeat (go_quiet (fail); try go_wp2)
                                     go_roundg k6
                                     case measure => have := HK1.out; have := HJ1.out; have := HK3.out; have := HK4.out; have := HJ18.out; have := HK6.out; omega
                                     case rel => exact ⟨(wrap64 (x13_6 + 1)), (by first | rfl | (simp; done) | (simp [*]; done)), H', ⟨by have := HK1.out; have := HJ1.out; have := HK3.out; have := HK4.out; have := HJ18.out; have := HK6.out; omega⟩, ⟨by (with_reducible repeat (first | apply Kd.R_alloc | apply Kd.R_drewN | apply Kd.R_drew)); exact HO_6.out⟩, ⟨by repeat (first | (with_reducible first | exact HB.out | apply below_alloc | apply pw_below_drewN | apply below_drew1) | exact HB.out)⟩⟩
                                   ·rw [if_neg c35] at H
                                    have c35b0 : ((rd ((rd_T25 l0 x3_1).f1) x13_6) == (rd ((rd_T25 l0 x3_1).f1) x11_4)) = false := beq_eq_false_iff_ne.mpr c35
                                    have c35b1 : ((rd ((rd_T25 l0 x3_1).f1) x13_6) != (rd ((rd_T25 l0 x3_1).f1) x11_4)) = true := bne_iff_ne.mpr c35
                                    have H' := Aside0.mk H
                                    clear H; have p258 : 0 ≤ (x13_6 : Int) := of_decide_eq_true (by first | (with_reducible assumption) | assumption); have q258 : x13_6 < (((rd_T25 l0 x3_1).f1).length : Int) := of_decide_eq_true (by first | (with_reducible assumption) | assumption); obtain ⟨ad258, e258, hx258_0⟩ := Kd.at_int HR245_1.out x13_6 p258 q258; obtain rfl : ad255 = ad258 := (by injection e258)
                                    replace hx258_0 := (HB.out.cell (World.block_lt_of_cell? w _ hx258_0)).trans hx258_0
                                    replace p258 := eq_true p258; replace q258 := eq_true q258; have p259 : 0 ≤ (x11_4 : Int) := of_decide_eq_true (by first | (with_reducible assumption) | assumption); have q259 : x11_4 < (((rd_T25 l0 x3_1).f1).length : Int) := of_decide_eq_true (by first | (with_reducible assumption) | assumption); obtain ⟨ad259, e259, hx259_0⟩ := Kd.at_int HR245_1.out x11_4 p259 q259; obtain rfl : ad255 = ad259 := (by injection e259)
                                    replace hx259_0 := (HB.out.cell (World.block_lt_of_cell? w _ hx259_0)).trans hx259_0
                                    replace p259 := eq_true p259; replace q259 := eq_true q259; have p260 : 0 ≤ (x13_6 : Int) := of_decide_eq_true (by first | (with_reducible assumption) | assumption); have q260 : x13_6 < (t247.length : Int) := of_decide_eq_true (by first | (with_reducible assumption) | assumption); obtain ⟨ad260, e260, hx260_0⟩ := Kd.at_int (Kd.R_reads' HO_6.out).2.2 x13_6 p260 q260; obtain rfl : ad253 = ad260 := (by injection e260); replace p260 := eq_true p260; replace q260 := eq_true q260; have p261 : 0 ≤ (x11_4 : Int) := of_decide_eq_true (by first | (with_reducible assumption) | assumption); have q261 : x11_4 < (t247.length : Int) := of_decide_eq_true (by first | (with_reducible assumption) | assumption); obtain ⟨ad261, e261, hx261_0⟩ := Kd.at_int (Kd.R_reads' HO_6.out).2.2 x11_4 p261 q261; obtain rfl : ad253 = ad261 := (by injection e261); replace p261 := eq_true p261; replace q261 := eq_true q261; have p262 : 0 ≤ (x13_6 : Int) := of_decide_eq_true (by first | (with_reducible assumption) | assumption); have q262 : x13_6 < (((rd_T25 l0 x3_1).f1).length : Int) := of_decide_eq_true (by first | (with_reducible assumption) | assumption); obtain ⟨ad262, e262, hx262_0⟩ := Kd.at_int HR245_1.out x13_6 p262 q262; obtain rfl : ad255 = ad262 := (by injection e262)
                                    replace hx262_0 := (HB.out.cell (World.block_lt_of_cell? w _ hx262_0)).trans hx262_0
                                    replace p262 := eq_true p262; replace q262 := eq_true q262; have p263 : 0 ≤ (x11_4 : Int) := of_decide_eq_true (by first | (with_reducible assumption) | assumption); have q263 : x11_4 < (((rd_T25 l0 x3_1).f1).length : Int) := of_decide_eq_true (by first | (with_reducible assumption) | assumption); obtain ⟨ad263, e263, hx263_0⟩ := Kd.at_int HR245_1.out x11_4 p263 q263; obtain rfl : ad255 = ad263 := (by injection e263)
                                    replace hx263_0 := (HB.out.cell (World.block_lt_of_cell? w _ hx263_0)).trans hx263_0
                                    replace p263 := eq_true p263; replace q263 := eq_true q263; have p264 : 0 ≤ (x13_6 : Int) := of_decide_eq_true (by first | (with_reducible assumption) | assumption); have q264 : x13_6 < (t247.length : Int) := of_decide_eq_true (by first | (with_reducible assumption) | assumption); obtain ⟨ad264, e264, hx264_0⟩ := Kd.at_int (Kd.R_reads' HO_6.out).2.2 x13_6 p264 q264; obtain rfl : ad253 = ad264 := (by injection e264); replace p264 := eq_true p264; replace q264 := eq_true q264; have p265 : 0 ≤ (x11_4 : Int) := of_decide_eq_true (by first | (with_reducible assumption) | assumption); have q265 : x11_4 < (t247.length : Int) := of_decide_eq_true (by first | (with_reducible assumption) | assumption); obtain ⟨ad265, e265, hx265_0⟩ := Kd.at_int (Kd.R_reads' HO_6.out).2.2 x11_4 p265 q265; obtain rfl : ad253 = ad265 := (by injection e265); replace p265 := eq_true p265; replace q265 := eq_true q265; have p266 : 0 ≤ (x13_6 : Int) := of_decide_eq_true (by first | (with_reducible assumption) | assumption); have q266 : x13_6 < (((rd_T25 l0 x3_1).f1).length : Int) := of_decide_eq_true (by first | (with_reducible assumption) | assumption); obtain ⟨ad266, e266, hx266_0⟩ := Kd.at_int HR245_1.out x13_6 p266 q266; obtain rfl : ad255 = ad266 := (by injection e266)
                                    replace hx266_0 := (HB.out.cell (World.block_lt_of_cell? w _ hx266_0)).trans hx266_0
                                    replace p266 := eq_true p266; replace q266 := eq_true q266; have p267 : 0 ≤ (x11_4 : Int) := of_decide_eq_true (by first | (with_reducible assumption) | assumption); have q267 : x11_4 < (((rd_T25 l0 x3_1).f1).length : Int) := of_decide_eq_true (by first | (with_reducible assumption) | assumption); obtain ⟨ad267, e267, hx267_0⟩ := Kd.at_int HR245_1.out x11_4 p267 q267; obtain rfl : ad255 = ad267 := (by injection e267)
                                    replace hx267_0 := (HB.out.cell (World.block_lt_of_cell? w _ hx267_0)).trans hx267_0
                                    replace p267 := eq_true p267; replace q267 := eq_true q267
                                    go_wp2
                                    repeat (go_quiet (fail); try go_wp2)
                                    go_roundg k6
                                    case measure => have := HK1.out; have := HJ1.out; have := HK3.out; have := HK4.out; have := HJ18.out; have := HK6.out; omega
                                    case rel => exact ⟨(wrap64 (x13_6 + 1)), (by first | rfl | (simp; done) | (simp [*]; done)), H', ⟨by have := HK1.out; have := HJ1.out; have := HK3.out; have := HK4.out; have := HJ18.out; have := HK6.out; omega⟩, ⟨by (with_reducible repeat (first | apply Kd.R_alloc | apply Kd.R_drewN | apply Kd.R_drew)); exact HO_6.out⟩, ⟨by repeat (first | (with_reducible first | exact HB.out | apply below_alloc | apply pw_below_drewN | apply below_drew1) | exact HB.out)⟩⟩
                                 ·rw [if_neg c33] at H
                                  have c33b0 : decide ((rd ((rd_T25 l0 x3_1).f1) x13_6) < (rd ((rd_T25 l0 x3_1).f1) x11_4)) = false := decide_eq_false c33
                                  clear c33
                                  by_cases c37 : (rd ((rd_T25 l0 x3_1).f1) x13_6) = (rd ((rd_T25 l0 x3_1).f1) x11_4)
                                  ·rw [if_pos c37] at H
                                   have c37b0 : ((rd ((rd_T25 l0 x3_1).f1) x13_6) == (rd ((rd_T25 l0 x3_1).f1) x11_4)) = true := beq_iff_eq.mpr c37
                                   have c37b1 : ((rd ((rd_T25 l0 x3_1).f1) x13_6) != (rd ((rd_T25 l0 x3_1).f1) x11_4)) = false := bne_eq_false_iff_eq.mpr c37
                                   clear c37
                                   by_cases c38 : (rd t247 x13_6) > (wrap64 ((rd t247 x11_4) + 1))
                                   ·rw [if_pos c38] at H
                                    have c38b0 : decide ((wrap64 ((rd t247 x11_4) + 1)) < (rd t247 x13_6)) = true := decide_eq_true c38
                                    clear c38
                                    obtain rfl := Option.some.inj H
                                    have p258 : 0 ≤ (x13_6 : Int) := of_decide_eq_true (by first | (with_reducible assumption) | assumption); have q258 : x13_6 < (((rd_T25 l0 x3_1).f1).length : Int) := of_decide_eq_true (by first | (with_reducible assumption) | assumption); obtain ⟨ad258, e258, hx258_0⟩ := Kd.at_int HR245_1.out x13_6 p258 q258; obtain rfl : ad255 = ad258 := (by injection e258)
                                    replace hx258_0 := (HB.out.cell (World.block_lt_of_cell? w _ hx258_0)).trans hx258_0
                                    replace p258 := eq_true p258; replace q258 := eq_true q258; have p259 : 0 ≤ (x11_4 : Int) := of_decide_eq_true (by first | (with_reducible assumption) | assumption); have q259 : x11_4 < (((rd_T25 l0 x3_1).f1).length : Int) := of_decide_eq_true (by first | (with_reducible assumption) | assumption); obtain ⟨ad259, e259, hx259_0⟩ := Kd.at_int HR245_1.out x11_4 p259 q259; obtain rfl : ad255 = ad259 := (by injection e259)
                                    replace hx259_0 := (HB.out.cell (World.block_lt_of_cell? w _ hx259_0)).trans hx259_0
                                    replace p259 := eq_true p259; replace q259 := eq_true q259; have p260 : 0 ≤ (x13_6 : Int) := of_decide_eq_true (by first | (with_reducible assumption) | assumption); have q260 : x13_6 < (t247.length : Int) := of_decide_eq_true (by first | (with_reducible assumption) | assumption); obtain ⟨ad260, e260, hx260_0⟩ := Kd.at_int (Kd.R_reads' HO_6.out).2.2 x13_6 p260 q260; obtain rfl : ad253 = ad260 := (by injection e260); replace p260 := eq_true p260; replace q260 := eq_true q260; have p261 : 0 ≤ (x11_4 : Int) := of_decide_eq_true (by first | (with_reducible assumption) | assumption); have q261 : x11_4 < (t247.length : Int) := of_decide_eq_true (by first | (with_reducible assumption) | assumption); obtain ⟨ad261, e261, hx261_0⟩ := Kd.at_int (Kd.R_reads' HO_6.out).2.2 x11_4 p261 q261; obtain rfl : ad253 = ad261 := (by injection e261); replace p261 := eq_true p261; replace q261 := eq_true q261; have p262 : 0 ≤ (x13_6 : Int) := of_decide_eq_true (by first | (with_reducible assumption) | assumption); have q262 : x13_6 < (((rd_T25 l0 x3_1).f1).length : Int) := of_decide_eq_true (by first | (with_reducible assumption) | assumption); obtain ⟨ad262, e262, hx262_0⟩ := Kd.at_int HR245_1.out x13_6 p262 q262; obtain rfl : ad255 = ad262 := (by injection e262)
                                    replace hx262_0 := (HB.out.cell (World.block_lt_of_cell? w _ hx262_0)).trans hx262_0
                                    replace p262 := eq_true p262; replace q262 := eq_true q262; have p263 : 0 ≤ (x11_4 : Int) := of_decide_eq_true (by first | (with_reducible assumption) | assumption); have q263 : x11_4 < (((rd_T25 l0 x3_1).f1).length : Int) := of_decide_eq_true (by first | (with_reducible assumption) | assumption); obtain ⟨ad263, e263, hx263_0⟩ := Kd.at_int HR245_1.out x11_4 p263 q263; obtain rfl : ad255 = ad263 := (by injection e263)
                                    replace hx263_0 := (HB.out.cell (World.block_lt_of_cell? w _ hx263_0)).trans hx263_0
                                    replace p263 := eq_true p263; replace q263 := eq_true q263; have p272 : 0 ≤ (x13_6 : Int) := of_decide_eq_true (by first | (with_reducible assumption) | assumption); have q272 : x13_6 < (((rd_T25 l0 x3_1).f1).length : Int) := of_decide_eq_true (by first | (with_reducible assumption) | assumption); obtain ⟨ad272, e272, hx272_0⟩ := Kd.at_int HR245_1.out x13_6 p272 q272; obtain rfl : ad255 = ad272 := (by injection e272)
                                    replace hx272_0 := (HB.out.cell (World.block_lt_of_cell? w _ hx272_0)).trans hx272_0
                                    replace p272 := eq_true p272; replace q272 := eq_true q272; have p273 : 0 ≤ (x11_4 : Int) := of_decide_eq_true (by first | (with_reducible assumption) | assumption); have q273 : x11_4 < (((rd_T25 l0 x3_1).f1).length : Int) := of_decide_eq_true (by first | (with_reducible assumption) | assumption); obtain ⟨ad273, e273, hx273_0⟩ := Kd.at_int HR245_1.out x11_4 p273 q273; obtain rfl : ad255 = ad273 := (by injection e273)
                                    replace hx273_0 := (HB.out.cell (World.block_lt_of_cell? w _ hx273_0)).trans hx273_0
                                    replace p273 := eq_true p273; replace q273 := eq_true q273; have p274 : 0 ≤ (x13_6 : Int) := of_decide_eq_true (by first | (with_reducible assumption) | assumption); have q274 : x13_6 < (t247.length : Int) := of_decide_eq_true (by first | (with_reducible assumption) | assumption); obtain ⟨ad274, e274, hx274_0⟩ := Kd.at_int (Kd.R_reads' HO_6.out).2.2 x13_6 p274 q274; obtain rfl : ad253 = ad274 := (by injection e274); replace p274 := eq_true p274; replace q274 := eq_true q274; have p275 : 0 ≤ (x11_4 : Int) := of_decide_eq_true (by first | (with_reducible assumption) | assumption); have q275 : x11_4 < (t247.length : Int) := of_decide_eq_true (by first | (with_reducible assumption) | assumption); obtain ⟨ad275, e275, hx275_0⟩ := Kd.at_int (Kd.R_reads' HO_6.out).2.2 x11_4 p275 q275; obtain rfl : ad253 = ad275 := (by injection e275); replace p275 := eq_true p275; replace q275 := eq_true q275; have p276 : 0 ≤ (x13_6 : Int) := of_decide_eq_true (by first | (with_reducible assumption) | assumption); have q276 : x13_6 < (t247.length : Int) := of_decide_eq_true (by first | (with_reducible assumption) | assumption); obtain ⟨ad276, e276, hx276_0⟩ := Kd.at_int (Kd.R_reads' HO_6.out).2.2 x13_6 p276 q276; obtain rfl : ad253 = ad276 := (by injection e276); replace p276 := eq_true p276; replace q276 := eq_true q276; have p277 : 0 ≤ (x11_4 : Int) := of_decide_eq_true (by first | (with_reducible assumption) | assumption); have q277 : x11_4 < (t247.length : Int) := of_decide_eq_true (by first | (with_reducible assumption) | assumption); obtain ⟨ad277, e277, hx277_0⟩ := Kd.at_int (Kd.R_reads' HO_6.out).2.2 x11_4 p277 q277; obtain rfl : ad253 = ad277 := (by injection e277); replace p277 := eq_true p277; replace q277 := eq_true q277
                                    go_wp2
                                    repeat (go_quiet (fail); try go_wp2)
                                    go_ret
                                    exact ⟨by first | rfl | (simp [errW_none, errW_some] <;> rfl) | (simp [*, errW_none, errW_some] <;> rfl), by repeat (first | (with_reducible first | exact HB.out | apply below_alloc | apply pw_below_drewN | apply below_drew1) | exact HB.out)⟩
                                   ·rw [if_neg c38] at H
                                    have c38b0 : decide ((wrap64 ((rd t247 x11_4) + 1)) < (rd t247 x13_6)) = false := decide_eq_false c38
                                    clear c38
                                    have H' := Aside0.mk H
                                    clear H; have p258 : 0 ≤ (x13_6 : Int) := of_decide_eq_true (by first | (with_reducible assumption) | assumption); have q258 : x13_6 < (((rd_T25 l0 x3_1).f1).length : Int) := of_decide_eq_true (by first | (with_reducible assumption) | assumption); obtain ⟨ad258, e258, hx258_0⟩ := Kd.at_int HR245_1.out x13_6 p258 q258; obtain rfl : ad255 = ad258 := (by injection e258)
                                    replace hx258_0 := (HB.out.cell (World.block_lt_of_cell? w _ hx258_0)).trans hx258_0
                                    replace p258 := eq_true p258; replace q258 := eq_true q258; have p259 : 0 ≤ (x11_4 : Int) := of_decide_eq_true (by first | (with_reducible assumption) | assumption); have q259 : x11_4 < (((rd_T25 l0 x3_1).f1).length : Int) := of_decide_eq_true (by first | (with_reducible assumption) | assumption); obtain ⟨ad259, e259, hx259_0⟩ := Kd.at_int HR245_1.out x11_4 p259 q259; obtain rfl : ad255 = ad259 := (by injection e259)
                                    replace hx259_0 := (HB.out.cell (World.block_lt_of_cell? w _ hx259_0)).trans hx259_0
                                    replace p259 := eq_true p259; replace q259 := eq_true q259; have p260 : 0 ≤ (x13_6 : Int) := of_decide_eq_true (by first | (with_reducible assumption) | assumption); have q260 : x13_6 < (t247.length : Int) := of_decide_eq_true (by first | (with_reducible assumption) | assumption); obtain ⟨ad260, e260, hx260_0⟩ := Kd.at_int (Kd.R_reads' HO_6.out).2.2 x13_6 p260 q260; obtain rfl : ad253 = ad260 := (by injection e260); replace p260 := eq_true p260; replace q260 := eq_true q260; have p261 : 0 ≤ (x11_4 : Int) := of_decide_eq_true (by first | (with_reducible assumption) | assumption); have q261 : x11_4 < (t247.length : Int) := of_decide_eq_true (by first | (with_reducible assumption) | assumption); obtain ⟨ad261, e261, hx261_0⟩ := Kd.at_int (Kd.R_reads' HO_6.out).2.2 x11_4 p261 q261; obtain rfl : ad253 = ad261 := (by injection e261); replace p261 := eq_true p261; replace q261 := eq_true q261; have p262 : 0 ≤ (x13_6 : Int) := of_decide_eq_true (by first | (with_reducible assumption) | assumption); have q262 : x13_6 < (((rd_T25 l0 x3_1).f1).length : Int) := of_decide_eq_true (by first | (with_reducible assumption) | assumption); obtain ⟨ad262, e262, hx262_0⟩ := Kd.at_int HR245_1.out x13_6 p262 q262; obtain rfl : ad255 = ad262 := (by injection e262)
                                    replace hx262_0 := (HB.out.cell (World.block_lt_of_cell? w _ hx262_0)).trans hx262_0
                                    replace p262 := eq_true p262; replace q262 := eq_true q262; have p263 : 0 ≤ (x11_4 : Int) := of_decide_eq_true (by first | (with_reducible assumption) | assumption); have q263 : x11_4 < (((rd_T25 l0 x3_1).f1).length : Int) := of_decide_eq_true (by first | (with_reducible assumption) | assumption); obtain ⟨ad263, e263, hx263_0⟩ := Kd.at_int HR245_1.out x11_4 p263 q263; obtain rfl : ad255 = ad263 := (by injection e263)
                                    replace hx263_0 := (HB.out.cell (World.block_lt_of_cell? w _ hx263_0)).trans hx263_0
                                    replace p263 := eq_true p263; replace q263 := eq_true q263; have p272 : 0 ≤ (x13_6 : Int) := of_decide_eq_true (by first | (with_reducible assumption) | assumption); have q272 : x13_6 < (((rd_T25 l0 x3_1).f1).length : Int) := of_decide_eq_true (by first | (with_reducible assumption) | assumption); obtain ⟨ad272, e272, hx272_0⟩ := Kd.at_int HR245_1.out x13_6 p272 q272; obtain rfl : ad255 = ad272 := (by injection e272)
                                    replace hx272_0 := (HB.out.cell (World.block_lt_of_cell? w _ hx272_0)).trans hx272_0
                                    replace p272 := eq_true p272; replace q272 := eq_true q272; have p273 : 0 ≤ (x11_4 : Int) := of_decide_eq_true (by first | (with_reducible assumption) | assumption); have q273 : x11_4 < (((rd_T25 l0 x3_1).f1).length : Int) := of_decide_eq_true (by first | (with_reducible assumption) | assumption); obtain ⟨ad273, e273, hx273_0⟩ := Kd.at_int HR245_1.out x11_4 p273 q273; obtain rfl : ad255 = ad273 := (by injection e273)
                                    replace hx273_0 := (HB.out.cell (World.block_lt_of_cell? w _ hx273_0)).trans hx273_0
                                    replace p273 := eq_true p273; replace q273 := eq_true q273; have p274 : 0 ≤ (x13_6 : Int) := of_decide_eq_true (by first | (with_reducible assumption) | assumption); have q274 : x13_6 < (t247.length : Int) := of_decide_eq_true (by first | (with_reducible assumption) | assumption); obtain ⟨ad274, e274, hx274_0⟩ := Kd.at_int (Kd.R_reads' HO_6.out).2.2 x13_6 p274 q274; obtain rfl : ad253 = ad274 := (by injection e274); replace p274 := eq_true p274; replace q274 := eq_true q274; have p275 : 0 ≤ (x11_4 : Int) := of_decide_eq_true (by first | (with_reducible assumption) | assumption); have q275 : x11_4 < (t247.length : Int) := of_decide_eq_true (by first | (with_reducible assumption) | assumption); obtain ⟨ad275, e275, hx275_0⟩ := Kd.at_int (Kd.R_reads' HO_6.out).2.2 x11_4 p275 q275; obtain rfl : ad253 = ad275 := (by injection e275); replace p275 := eq_true p275; replace q275 := eq_true q275; have p276 : 0 ≤ (x13_6 : Int) := of_decide_eq_true (by first | (with_reducible assumption) | assumption); have q276 : x13_6 < (t247.length : Int) := of_decide_eq_true (by first | (with_reducible assumption) | assumption); obtain ⟨ad276, e276, hx276_0⟩ := Kd.at_int (Kd.R_reads' HO_6.out).2.2 x13_6 p276 q276; obtain rfl : ad253 = ad276 := (by injection e276); replace p276 := eq_true p276; replace q276 := eq_true q276; have p277 : 0 ≤ (x11_4 : Int) := of_decide_eq_true (by first | (with_reducible assumption) | assumption); have q277 : x11_4 < (t247.length : Int) := of_decide_eq_true (by first | (with_reducible assumption) | assumption); obtain ⟨ad277, e277, hx277_0⟩ := Kd.at_int (Kd.R_reads' HO_6.out).2.2 x11_4 p277 q277; obtain rfl : ad253 = ad277 := (by injection e277); replace p277 := eq_true p277; replace q277 := eq_true q277
                                    go_wp2
                                    repeat (go_quiet (fail); try go_wp2)
                                    go_roundg k6
                                    case measure => have := HK1.out; have := HJ1.out; have := HK3.out; have := HK4.out; have := HJ18.out; have := HK6.out; omega
                                    case rel => exact ⟨(wrap64 (x13_6 + 1)), (by first | rfl | (simp; done) | (simp [*]; done)), H', ⟨by have := HK1.out; have := HJ1.out; have := HK3.out; have := HK4.out; have := HJ18.out; have := HK6.out; omega⟩, ⟨by (with_reducible repeat (first | apply Kd.R_alloc | apply Kd.R_drewN | apply Kd.R_drew)); exact HO_6.out⟩, ⟨by repeat (first | (with_reducible first | exact HB.out | apply below_alloc | apply pw_below_drewN | apply below_drew1) | exact HB.out)⟩⟩
                                  ·rw [if_neg c37] at H
                                   have c37b0 : ((rd ((rd_T25 l0 x3_1).f1) x13_6) == (rd ((rd_T25 l0 x3_1).f1) x11_4)) = false := beq_eq_false_iff_ne.mpr c37
                                   have c37b1 : ((rd ((rd_T25 l0 x3_1).f1) x13_6) != (rd ((rd_T25 l0 x3_1).f1) x11_4)) = true := bne_iff_ne.mpr c37
                                   have H' := Aside0.mk H
                                   clear H; have p258 : 0 ≤ (x13_6 : Int) := of_decide_eq_true (by first | (with_reducible assumption) | assumption); have q258 : x13_6 < (((rd_T25 l0 x3_1).f1).length : Int) := of_decide_eq_true (by first | (with_reducible assumption) | assumption); obtain ⟨ad258, e258, hx258_0⟩ := Kd.at_int HR245_1.out x13_6 p258 q258; obtain rfl : ad255 = ad258 := (by injection e258)
                                   replace hx258_0 := (HB.out.cell (World.block_lt_of_cell? w _ hx258_0)).trans hx258_0
                                   replace p258 := eq_true p258; replace q258 := eq_true q258; have p259 : 0 ≤ (x11_4 : Int) := of_decide_eq_true (by first | (with_reducible assumption) | assumption); have q259 : x11_4 < (((rd_T25 l0 x3_1).f1).length : Int) := of_decide_eq_true (by first | (with_reducible assumption) | assumption); obtain ⟨ad259, e259, hx259_0⟩ := Kd.at_int HR245_1.out x11_4 p259 q259; obtain rfl : ad255 = ad259 := (by injection e259)
                                   replace hx259_0 := (HB.out.cell (World.block_lt_of_cell? w _ hx259_0)).trans hx259_0
                                   replace p259 := eq_true p259; replace q259 := eq_true q259; have p260 : 0 ≤ (x13_6 : Int) := of_decide_eq_true (by first | (with_reducible assumption) | assumption); have q260 : x13_6 < (t247.length : Int) := of_decide_eq_true (by first | (with_reducible assumption) | assumption); obtain ⟨ad260, e260, hx260_0⟩ := Kd.at_int (Kd.R_reads' HO_6.out).2.2 x13_6 p260 q260; obtain rfl : ad253 = ad260 := (by injection e260); replace p260 := eq_true p260; replace q260 := eq_true q260; have p261 : 0 ≤ (x11_4 : Int) := of_decide_eq_true (by first | (with_reducible assumption) | assumption); have q261 : x11_4 < (t247.length : Int) := of_decide_eq_true (by first | (with_reducible assumption) | assumption); obtain ⟨ad261, e261, hx261_0⟩ := Kd.at_int (Kd.R_reads' HO_6.out).2.2 x11_4 p261 q261; obtain rfl : ad253 = ad261 := (by injection e261); replace p261 := eq_true p261; replace q261 := eq_true q261; have p262 : 0 ≤ (x13_6 : Int) := of_decide_eq_true (by first | (with_reducible assumption) | assumption); have q262 : x13_6 < (((rd_T25 l0 x3_1).f1).length : Int) := of_decide_eq_true (by first | (with_reducible assumption) | assumption); obtain ⟨ad262, e262, hx262_0⟩ := Kd.at_int HR245_1.out x13_6 p262 q262; obtain rfl : ad255 = ad262 := (by injection e262)
                                   replace hx262_0 := (HB.out.cell (World.block_lt_of_cell? w _ hx262_0)).trans hx262_0
                                   replace p262 := eq_true p262; replace q262 := eq_true q262; have p263 : 0 ≤ (x11_4 : Int) := of_decide_eq_true (by first | (with_reducible assumption) | assumption); have q263 : x11_4 < (((rd_T25 l0 x3_1).f1).length : Int) := of_decide_eq_true (by first | (with_reducible assumption) | assumption); obtain ⟨ad263, e263, hx263_0⟩ := Kd.at_int HR245_1.out x11_4 p263 q263; obtain rfl : ad255 = ad263 := (by injection e263)
                                   replace hx263_0 := (HB.out.cell (World.block_lt_of_cell? w _ hx263_0)).trans hx263_0
                                   replace p263 := eq_true p263; replace q263 := eq_true q263; have p272 : 0 ≤ (x13_6 : Int) := of_decide_eq_true (by first | (with_reducible assumption) | assumption); have q272 : x13_6 < (((rd_T25 l0 x3_1).f1).length : Int) := of_decide_eq_true (by first | (with_reducible assumption) | assumption); obtain ⟨ad272, e272, hx272_0⟩ := Kd.at_int HR245_1.out x13_6 p272 q272; obtain rfl : ad255 = ad272 := (by injection e272)
                                   replace hx272_0 := (HB.out.cell (World.block_lt_of_cell? w _ hx272_0)).trans hx272_0
                                   replace p272 := eq_true p272; replace q272 := eq_true q272; have p273 : 0 ≤ (x11_4 : Int) := of_decide_eq_true (by first | (with_reducible assumption) | assumption); have q273 : x11_4 < (((rd_T25 l0 x3_1).f1).length : Int) := of_decide_eq_true (by first | (with_reducible assumption) | assumption); obtain ⟨ad273, e273, hx273_0⟩ := Kd.at_int HR245_1.out x11_4 p273 q273; obtain rfl : ad255 = ad273 := (by injection e273)
                                   replace hx273_0 := (HB.out.cell (World.block_lt_of_cell? w _ hx273_0)).trans hx273_0
                                   replace p273 := eq_true p273; replace q273 := eq_true q273
                                   go_wp2
                                   repeat (go_quiet (fail); try go_wp2)
                                   go_roundg k6
                                   case measure => have := HK1.out; have := HJ1.out; have := HK3.out; have := HK4.out; have := HJ18.out; have := HK6.out; omega
                                   case rel => exact ⟨(wrap64 (x13_6 + 1)), (by first | rfl | (simp; done) | (simp [*]; done)), H', ⟨by have := HK1.out; have := HJ1.out; have := HK3.out; have := HK4.out; have := HJ18.out; have := HK6.out; omega⟩, ⟨by (with_reducible repeat (first | apply Kd.R_alloc | apply Kd.R_drewN | apply Kd.R_drew)); exact HO_6.out⟩, ⟨by repeat (first | (with_reducible first | exact HB.out | apply below_alloc | apply pw_below_drewN | apply below_drew1) | exact HB.out)⟩⟩
                               ·rw [if_neg c31] at H
                                exact absurd H (by simp)
                              ·rw [if_neg c30] at H
                               exact absurd H (by simp)
                             ·rw [if_neg c29] at H
                              have c29b0 : decide ((rd ((rd_T25 l0 x3_1).f1) x11_4) < (rd ((rd_T25 l0 x3_1).f1) x13_6)) = false := decide_eq_false c29
                              clear c29
                              by_cases c39 : (rd ((rd_T25 l0 x3_1).f1) x13_6) < (rd ((rd_T25 l0 x3_1).f1) x11_4)
                              ·rw [if_pos c39] at H
                               have c39b0 : decide ((rd ((rd_T25 l0 x3_1).f1) x13_6) < (rd ((rd_T25 l0 x3_1).f1) x11_4)) = true := decide_eq_true c39
                               clear c39
                               by_cases c40 : x13_6 < (t247.length : Int)
                               ·rw [if_pos c40] at H
                                have c40b0 : decide (x13_6 < (t247.length : Int)) = true := decide_eq_true c40
                                clear c40
                                by_cases c41 : x11_4 < (t247.length : Int)
                                ·rw [if_pos c41] at H
                                 have c41b0 : decide (x11_4 < (t247.length : Int)) = true := decide_eq_true c41
                                 clear c41
                                 by_cases c42 : (rd t247 x13_6) > (rd t247 x11_4)
                                 ·rw [if_pos c42] at H
                                  have c42b0 : decide ((rd t247 x11_4) < (rd t247 x13_6)) = true := decide_eq_true c42
                                  clear c42
                                  obtain rfl := Option.some.inj H
                                  have p258 : 0 ≤ (x13_6 : Int) := of_decide_eq_true (by first | (with_reducible assumption) | assumption); have q258 : x13_6 < (((rd_T25 l0 x3_1).f1).length : Int) := of_decide_eq_true (by first | (with_reducible assumption) | assumption); obtain ⟨ad258, e258, hx258_0⟩ := Kd.at_int HR245_1.out x13_6 p258 q258; obtain rfl : ad255 = ad258 := (by injection e258)
                                  replace hx258_0 := (HB.out.cell (World.block_lt_of_cell? w _ hx258_0)).trans hx258_0
                                  replace p258 := eq_true p258; replace q258 := eq_true q258; have p259 : 0 ≤ (x11_4 : Int) := of_decide_eq_true (by first | (with_reducible assumption) | assumption); have q259 : x11_4 < (((rd_T25 l0 x3_1).f1).length : Int) := of_decide_eq_true (by first | (with_reducible assumption) | assumption); obtain ⟨ad259, e259, hx259_0⟩ := Kd.at_int HR245_1.out x11_4 p259 q259; obtain rfl : ad255 = ad259 := (by injection e259)
                                  replace hx259_0 := (HB.out.cell (World.block_lt_of_cell? w _ hx259_0)).trans hx259_0
                                  replace p259 := eq_true p259; replace q259 := eq_true q259; have p278 : 0 ≤ (x13_6 : Int) := of_decide_eq_true (by first | (with_reducible assumption) | assumption); have q278 : x13_6 < (((rd_T25 l0 x3_1).f1).length : Int) := of_decide_eq_true (by first | (with_reducible assumption) | assumption); obtain ⟨ad278, e278, hx278_0⟩ := Kd.at_int HR245_1.out x13_6 p278 q278; obtain rfl : ad255 = ad278 := (by injection e278)
                                  replace hx278_0 := (HB.out.cell (World.block_lt_of_cell? w _ hx278_0)).trans hx278_0
                                  replace p278 := eq_true p278; replace q278 := eq_true q278; have p279 : 0 ≤ (x11_4 : Int) := of_decide_eq_true (by first | (with_reducible assumption) | assumption); have q279 : x11_4 < (((rd_T25 l0 x3_1).f1).length : Int) := of_decide_eq_true (by first | (with_reducible assumption) | assumption); obtain ⟨ad279, e279, hx279_0⟩ := Kd.at_int HR245_1.out x11_4 p279 q279; obtain rfl : ad255 = ad279 := (by injection e279)
                                  replace hx279_0 := (HB.out.cell (World.block_lt_of_cell? w _ hx279_0)).trans hx279_0
                                  replace p279 := eq_true p279; replace q279 := eq_true q279; have p280 : 0 ≤ (x13_6 : Int) := of_decide_eq_true (by first | (with_reducible assumption) | assumption); have q280 : x13_6 < (t247.length : Int) := of_decide_eq_true (by first | (with_reducible assumption) | assumption); obtain ⟨ad280, e280, hx280_0⟩ := Kd.at_int (Kd.R_reads' HO_6.out).2.2 x13_6 p280 q280; obtain rfl : ad253 = ad280 := (by injection e280); replace p280 := eq_true p280; replace q280 := eq_true q280; have p281 : 0 ≤ (x11_4 : Int) := of_decide_eq_true (by first | (with_reducible assumption) | assumption); have q281 : x11_4 < (t247.length : Int) := of_decide_eq_true (by first | (with_reducible assumption) | assumption); obtain ⟨ad281, e281, hx281_0⟩ := Kd.at_int (Kd.R_reads' HO_6.out).2.2 x11_4 p281 q281; obtain rfl : ad253 = ad281 := (by injection e281); replace p281 := eq_true p281; replace q281 := eq_true q281
                                  go_wp2
                                  repeat (go_quiet (fail); try go_wp2)
                                  go_ret
                                  exact ⟨by first | rfl | (simp [errW_none, errW_some] <;> rfl) | (simp [*, errW_none, errW_some] <;> rfl), by repeat (first | (with_reducible first | exact HB.out | apply below_alloc | apply pw_below_drewN | apply below_drew1) | exact HB.out)⟩
                                 ·rw [if_neg c42] at H
                                  have c42b0 : decide ((rd t247 x11_4) < (rd t247 x13_6)) = false := decide_eq_false c42
                                  clear c42
                                  by_cases c43 : (rd ((rd_T25 l0 x3_1).f1) x13_6) = (rd ((rd_T25 l0 x3_1).f1) x11_4)
                                  ·rw [if_pos c43] at H
                                   have c43b0 : ((rd ((rd_T25 l0 x3_1).f1) x13_6) == (rd ((rd_T25 l0 x3_1).f1) x11_4)) = true := beq_iff_eq.mpr c43
                                   have c43b1 : ((rd ((rd_T25 l0 x3_1).f1) x13_6) != (rd ((rd_T25 l0 x3_1).f1) x11_4)) = false := bne_eq_false_iff_eq.mpr c43
                                   clear c43
                                   by_cases c44 : (rd t247 x13_6) < (rd t247 x11_4)
                                   ·rw [if_pos c44] at H
                                    have c44b0 : decide ((rd t247 x13_6) < (rd t247 x11_4)) = true := decide_eq_true c44
                                    clear c44
                                    obtain rfl := Option.some.inj H
                                    have p258 : 0 ≤ (x13_6 : Int) := of_decide_eq_true (by first | (with_reducible assumption) | assumption); have q258 : x13_6 < (((rd_T25 l0 x3_1).f1).length : Int) := of_decide_eq_true (by first | (with_reducible assumption) | assumption); obtain ⟨ad258, e258, hx258_0⟩ := Kd.at_int HR245_1.out x13_6 p258 q258; obtain rfl : ad255 = ad258 := (by injection e258)
                                    replace hx258_0 := (HB.out.cell (World.block_lt_of_cell? w _ hx258_0)).trans hx258_0
                                    replace p258 := eq_true p258; replace q258 := eq_true q258; have p259 : 0 ≤ (x11_4 : Int) := of_decide_eq_true (by first | (with_reducible assumption) | assumption); have q259 : x11_4 < (((rd_T25 l0 x3_1).f1).length : Int) := of_decide_eq_true (by first | (with_reducible assumption) | assumption); obtain ⟨ad259, e259, hx259_0⟩ := Kd.at_int HR245_1.out x11_4 p259 q259; obtain rfl : ad255 = ad259 := (by injection e259)
                                    replace hx259_0 := (HB.out.cell (World.block_lt_of_cell? w _ hx259_0)).trans hx259_0
                                    replace p259 := eq_true p259; replace q259 := eq_true q259; have p278 : 0 ≤ (x13_6 : Int) := of_decide_eq_true (by first | (with_reducible assumption) | assumption); have q278 : x13_6 < (((rd_T25 l0 x3_1).f1).length : Int) := of_decide_eq_true (by first | (with_reducible assumption) | assumption); obtain ⟨ad278, e278, hx278_0⟩ := Kd.at_int HR245_1.out x13_6 p278 q278; obtain rfl : ad255 = ad278 := (by injection e278)
                                    replace hx278_0 := (HB.out.cell (World.block_lt_of_cell? w _ hx278_0)).trans hx278_0
                                    replace p278 := eq_true p278; replace q278 := eq_true q278; have p279 : 0 ≤ (x11_4 : Int) := of_decide_eq_true (by first | (with_reducible assumption) | assumption); have q279 : x11_4 < (((rd_T25 l0 x3_1).f1).length : Int) := of_decide_eq_true (by first | (with_reducible assumption) | assumption); obtain ⟨ad279, e279, hx279_0⟩ := Kd.at_int HR245_1.out x11_4 p279 q279; obtain rfl : ad255 = ad279 := (by injection e279)
                                    replace hx279_0 := (HB.out.cell (World.block_lt_of_cell? w _ hx279_0)).trans hx279_0
                                    replace p279 := eq_true p279; replace q279 := eq_true q279; have p280 : 0 ≤ (x13_6 : Int) := of_decide_eq_true (by first | (with_reducible assumption) | assumption); have q280 : x13_6 < (t247.length : Int) := of_decide_eq_true (by first | (with_reducible assumption) | assumption); obtain ⟨ad280, e280, hx280_0⟩ := Kd.at_int (Kd.R_reads' HO_6.out).2.2 x13_6 p280 q280; obtain rfl : ad253 = ad280 := (by injection e280); replace p280 := eq_true p280; replace q280 := eq_true q280; have p281 : 0 ≤ (x11_4 : Int) := of_decide_eq_true (by first | (with_reducible assumption) | assumption); have q281 : x11_4 < (t247.length : Int) := of_decide_eq_true (by first | (with_reducible assumption) | assumption); obtain ⟨ad281, e281, hx281_0⟩ := Kd.at_int (Kd.R_reads' HO_6.out).2.2 x11_4 p281 q281; obtain rfl : ad253 = ad281 := (by injection e281); replace p281 := eq_true p281; replace q281 := eq_true q281; have p282 : 0 ≤ (x13_6 : Int) := of_decide_eq_true (by first | (with_reducible assumption) | assumption); have q282 : x13_6 < (((rd_T25 l0 x3_1).f1).length : Int) := of_decide_eq_true (by first | (with_reducible assumption) | assumption); obtain ⟨ad282, e282, hx282_0⟩ := Kd.at_int HR245_1.out x13_6 p282 q282; obtain rfl : ad255 = ad282 := (by injection e282)
                                    replace hx282_0 := (HB.out.cell (World.block_lt_of_cell? w _ hx282_0)).trans hx282_0
                                    replace p282 := eq_true p282; replace q282 := eq_true q282; have p283 : 0 ≤ (x11_4 : Int) := of_decide_eq_true (by first | (with_reducible assumption) | assumption); have q283 : x11_4 < (((rd_T25 l0 x3_1).f1).length : Int) := of_decide_eq_true (by first | (with_reducible assumption) | assumption); obtain ⟨ad283, e283, hx283_0⟩ := Kd.at_int HR245_1.out x11_4 p283 q283; obtain rfl : ad255 = ad283 := (by injection e283)
                                    replace hx283_0 := (HB.out.cell (World.block_lt_of_cell? w _ hx283_0)).trans hx283_0
                                    replace p283 := eq_true p283; replace q283 := eq_true q283; have p284 : 0 ≤ (x13_6 : Int) := of_decide_eq_true (by first | (with_reducible assumption) | assumption); have q284 : x13_6 < (t247.length : Int) := of_decide_eq_true (by first | (with_reducible assumption) | assumption); obtain ⟨ad284, e284, hx284_0⟩ := Kd.at_int (Kd.R_reads' HO_6.out).2.2 x13_6 p284 q284; obtain rfl : ad253 = ad284 := (by injection e284); replace p284 := eq_true p284; replace q284 := eq_true q284; have p285 : 0 ≤ (x11_4 : Int) := of_decide_eq_true (by first | (with_reducible assumption) | assumption); have q285 : x11_4 < (t247.length : Int) := of_decide_eq_true (by first | (with_reducible assumption) | assumption); obtain ⟨ad285, e285, hx285_0⟩ := Kd.at_int (Kd.R_reads' HO_6.out).2.2 x11_4 p285 q285; obtain rfl : ad253 = ad285 := (by injection e285); replace p285 := eq_true p285; replace q285 := eq_true q285
                                    go_wp2
                                    repeat (go_quiet (fail); try go_wp2)
                                    go_ret
                                    exact ⟨by first | rfl | (simp [errW_none, errW_some] <;> rfl) | (simp [*, errW_none, errW_some] <;> rfl), by repeat (first | (with_reducible first | exact HB.out | apply below_alloc | apply pw_below_drewN | apply below_drew1) | exact HB.out)⟩
                                   ·rw [if_neg c44] at H
                                    have c44b0 : decide ((rd t247 x13_6) < (rd t247 x11_4)) = false := decide_eq_false c44
                                    clear c44
                                    by_cases c45 : (rd t247 x13_6) > (wrap64 ((rd t247 x11_4) + 1))
                                    ·rw [if_pos c45] at H
                                     have c45b0 : decide ((wrap64 ((rd t247 x11_4) + 1)) < (rd t247 x13_6)) = true := decide_eq_true c45
                                     clear c45
                                     obtain rfl := Option.some.inj H
                                     have p258 : 0 ≤ (x13_6 : Int) := of_decide_eq_true (by first | (with_reducible assumption) | assumption); have q258 : x13_6 < (((rd_T25 l0 x3_1).f1).length : Int) := of_decide_eq_true (by first | (with_reducible assumption) | assumption); obtain ⟨ad258, e258, hx258_0⟩ := Kd.at_int HR245_1.out x13_6 p258 q258; obtain rfl : ad255 = ad258 := (by injection e258)
                                     replace hx258_0 := (HB.out.cell (World.block_lt_of_cell? w _ hx258_0)).trans hx258_0
                                     replace p258 := eq_true p258; replace q258 := eq_true q258; have p259 : 0 ≤ (x11_4 : Int) := of_decide_eq_true (by first | (with_reducible assumption) | assumption); have q259 : x11_4 < (((rd_T25 l0 x3_1).f1).length : Int) := of_decide_eq_true (by first | (with_reducible assumption) | assumption); obtain ⟨ad259, e259, hx259_0⟩ := Kd.at_int HR245_1.out x11_4 p259 q259; obtain rfl : ad255 = ad259 := (by injection e259)
                                     replace hx259_0 := (HB.out.cell (World.block_lt_of_cell? w _ hx259_0)).trans hx259_0
                                     replace p259 := eq_true p259; replace q259 := eq_true q259; have p278 : 0 ≤ (x13_6 : Int) := of_decide_eq_true (by first | (with_reducible assumption) | assumption); have q278 : x13_6 < (((rd_T25 l0 x3_1).f1).length : Int) := of_decide_eq_true (by first | (with_reducible assumption) | assumption); obtain ⟨ad278, e278, hx278_0⟩ := Kd.at_int HR245_1.out x13_6 p278 q278; obtain rfl : ad255 = ad278 := (by injection e278)
                                     replace hx278_0 := (HB.out.cell (World.block_lt_of_cell? w _ hx278_0)).trans hx278_0
                                     replace p278 := eq_true p278; replace q278 := eq_true q278; have p279 : 0 ≤ (x11_4 : Int) := of_decide_eq_true (by first | (with_reducible assumption) | assumption); have q279 : x11_4 < (((rd_T25 l0 x3_1).f1).length : Int) := of_decide_eq_true (by first | (with_reducible assumption) | assumption); obtain ⟨ad279, e279, hx279_0⟩ := Kd.at_int HR245_1.out x11_4 p279 q279; obtain rfl : ad255 = ad279 := (by injection e279)
                                     replace hx279_0 := (HB.out.cell (World.block_lt_of_cell? w _ hx279_0)).trans hx279_0
                                     replace p279 := eq_true p279; replace q279 := eq_true q279; have p280 : 0 ≤ (x13_6 : Int) := of_decide_eq_true (by first | (with_reducible assumption) | assumption); have q280 : x13_6 < (t247.length : Int) := of_decide_eq_true (by first | (with_reducible assumption) | assumption); obtain ⟨ad280, e280, hx280_0⟩ := Kd.at_int (Kd.R_reads' HO_6.out).2.2 x13_6 p280 q280; obtain rfl : ad253 = ad280 := (by injection e280); replace p280 := eq_true p280; replace q280 := eq_true q280; have p281 : 0 ≤ (x11_4 : Int) := of_decide_eq_true (by first | (with_reducible assumption) | assumption); have q281 : x11_4 < (t247.length : Int) := of_decide_eq_true (by first | (with_reducible assumption) | assumption); obtain ⟨ad281, e281, hx281_0⟩ := Kd.at_int (Kd.R_reads' HO_6.out).2.2 x11_4 p281 q281; obtain rfl : ad253 = ad281 := (by injection e281); replace p281 := eq_true p281; replace q281 := eq_true q281; have p282 : 0 ≤ (x13_6 : Int) := of_decide_eq_true (by first | (with_reducible assumption) | assumption); have q282 : x13_6 < (((rd_T25 l0 x3_1).f1).length : Int) := of_decide_eq_true (by first | (with_reducible assumption) | assumption); obtain ⟨ad282, e282, hx282_0⟩ := Kd.at_int HR245_1.out x13_6 p282 q282; obtain rfl : ad255 = ad282 := (by injection e282)
                                     replace hx282_0 := (HB.out.cell (World.block_lt_of_cell? w _ hx282_0)).trans hx282_0
                                     replace p282 := eq_true p282; replace q282 := eq_true q282; have p283 : 0 ≤ (x11_4 : Int) := of_decide_eq_true (by first | (with_reducible assumption) | assumption); have q283 : x11_4 < (((rd_T25 l0 x3_1).f1).length : Int) := of_decide_eq_true (by first | (with_reducible assumption) | assumption); obtain ⟨ad283, e283, hx283_0⟩ := Kd.at_int HR245_1.out x11_4 p283 q283; obtain rfl : ad255 = ad283 := (by injection e283)
                                     replace hx283_0 := (HB.out.cell (World.block_lt_of_cell? w _ hx283_0)).trans hx283_0
                                     replace p283 := eq_true p283; replace q283 := eq_true q283; have p284 : 0 ≤ (x13_6 : Int) := of_decide_eq_true (by first | (with_reducible assumption) | assumption); have q284 : x13_6 < (t247.length : Int) := of_decide_eq_true (by first | (with_reducible assumption) | assumption); obtain ⟨ad284, e284, hx284_0⟩ := Kd.at_int (Kd.R_reads' HO_6.out).2.2 x13_6 p284 q284; obtain rfl : ad253 = ad284 := (by injection e284); replace p284 := eq_true p284; replace q284 := eq_true q284; have p285 : 0 ≤ (x11_4 : Int) := of_decide_eq_true (by first | (with_reducible assumption) | assumption); have q285 : x11_4 < (t247.length : Int) := of_decide_eq_true (by first | (with_reducible assumption) | assumption); obtain ⟨ad285, e285, hx285_0⟩ := Kd.at_int (Kd.R_reads' HO_6.out).2.2 x11_4 p285 q285; obtain rfl : ad253 = ad285 := (by injection e285); replace p285 := eq_true p285; replace q285 := eq_true q285; have p286 : 0 ≤ (x13_6 : Int) := of_decide_eq_true (by first | (with_reducible assumption) | assumption); have q286 : x13_6 < (t247.length : Int) := of_decide_eq_true (by first | (with_reducible assumption) | assumption); obtain ⟨ad286, e286, hx286_0⟩ := Kd.at_int (Kd.R_reads' HO_6.out).2.2 x13_6 p286 q286; obtain rfl : ad253 = ad286 := (by injection e286); replace p286 := eq_true p286; replace q286 := eq_true q286; have p287 : 0 ≤ (x11_4 : Int) := of_decide_eq_true (by first | (with_reducible assumption) | assumption); have q287 : x11_4 < (t247.length : Int) := of_decide_eq_true (by first | (with_reducible assumption) | assumption); obtain ⟨ad287, e287, hx287_0⟩ := Kd.at_int (Kd.R_reads' HO_6.out).2.2 x11_4 p287 q287; obtain rfl : ad253 = ad287 := (by injection e287); replace p287 := eq_true p287; replace q287 := eq_true q287
                                     go_wp2
                                     repeat (go_quiet (fail); try go_wp2)
                                     go_ret
                                     exact ⟨by first | rfl | (simp [errW_none, errW_some] <;> rfl) | (simp [*, errW_none, errW_some] <;> rfl), by repeat (first | (with_reducible first | exact HB.out | apply below_alloc | apply pw_below_drewN | apply below_drew1) | exact HB.out)⟩
                                    ·rw [if_neg c45] at H
                                     have c45b0 : decide ((wrap64 ((rd t247 x11_4) + 1)) < (rd t247 x13_6)) = false := decide_eq_false c45
                                     clear c45
                                     have H' := Aside0.mk H
                                     clear H; have p258 : 0 ≤ (x13_6 : Int) := of_decide_eq_true (by first | (with_reducible assumption) | assumption); have q258 : x13_6 < (((rd_T25 l0 x3_1).f1).length : Int) := of_decide_eq_true (by first | (with_reducible assumption) | assumption); obtain ⟨ad258, e258, hx258_0⟩ := Kd.at_int HR245_1.out x13_6 p258 q258; obtain rfl : ad255 = ad258 := (by injection e258)
                                     replace hx258_0 := (HB.out.cell (World.block_lt_of_cell? w _ hx258_0)).trans hx258_0
                                     replace p258 := eq_true p258; replace q258 := eq_true q258; have p259 : 0 ≤ (x11_4 : Int) := of_decide_eq_true (by first | (with_reducible assumption) | assumption); have q259 : x11_4 < (((rd_T25 l0 x3_1).f1).length : Int) := of_decide_eq_true (by first | (with_reducible assumption) | assumption); obtain ⟨ad259, e259, hx259_0⟩ := Kd.at_int HR245_1.out x11_4 p259 q259; obtain rfl : ad255 = ad259 := (by injection e259)
                                     replace hx259_0 := (HB.out.cell (World.block_lt_of_cell? w _ hx259_0)).trans hx259_0
                                     replace p259 := eq_true p259; replace q259 := eq_true q259; have p278 : 0 ≤ (x13_6 : Int) := of_decide_eq_true (by first | (with_reducible assumption) | assumption); have q278 : x13_6 < (((rd_T25 l0 x3_1).f1).length : Int) := of_decide_eq_true (by first | (with_reducible assumption) | assumption); obtain ⟨ad278, e278, hx278_0⟩ := Kd.at_int HR245_1.out x13_6 p278 q278; obtain rfl : ad255 = ad278 := (by injection e278)
                                     replace hx278_0 := (HB.out.cell (World.block_lt_of_cell? w _ hx278_0)).trans hx278_0
                                     replace p278 := eq_true p278; replace q278 := eq_true q278; have p279 : 0 ≤ (x11_4 : Int) := of_decide_eq_true (by first | (with_reducible assumption) | assumption); have q279 : x11_4 < (((rd_T25 l0 x3_1).f1).length : Int) := of_decide_eq_true (by first | (with_reducible assumption) | assumption); obtain ⟨ad279, e279, hx279_0⟩ := Kd.at_int HR245_1.out x11_4 p279 q279; obtain rfl : ad255 = ad279 := (by injection e279)
                                     replace hx279_0 := (HB.out.cell (World.block_lt_of_cell? w _ hx279_0)).trans hx279_0
                                     replace p279 := eq_true p279; replace q279 := eq_true q279; have p280 : 0 ≤ (x13_6 : Int) := of_decide_eq_true (by first | (with_reducible assumption) | assumption); have q280 : x13_6 < (t247.length : Int) := of_decide_eq_true (by first | (with_reducible assumption) | assumption); obtain ⟨ad280, e280, hx280_0⟩ := Kd.at_int (Kd.R_reads' HO_6.out).2.2 x13_6 p280 q280; obtain rfl : ad253 = ad280 := (by injection e280); replace p280 := eq_true p280; replace q280 := eq_true q280; have p281 : 0 ≤ (x11_4 : Int) := of_decide_eq_true (by first | (with_reducible assumption) | assumption); have q281 : x11_4 < (t247.length : Int) := of_decide_eq_true (by first | (with_reducible assumption) | assumption); obtain ⟨ad281, e281, hx281_0⟩ := Kd.at_int (Kd.R_reads' HO_6.out).2.2 x11_4 p281 q281; obtain rfl : ad253 = ad281 := (by injection e281); replace p281 := eq_true p281; replace q281 := eq_true q281; have p282 : 0 ≤ (x13_6 : Int) := of_decide_eq_true (by first | (with_reducible assumption) | assumption); have q282 : x13_6 < (((rd_T25 l0 x3_1).f1).length : Int) := of_decide_eq_true (by first | (with_reducible assumption) | assumption); obtain ⟨ad282, e282, hx282_0⟩ := Kd.at_int HR245_1.out x13_6 p282 q282; obtain rfl : ad255 = ad282 := (by injection e282)
                                     replace hx282_0 := (HB.out.cell (World.block_lt_of_cell? w _ hx282_0)).trans hx282_0
                                     replace p282 := eq_true p282; replace q282 := eq_true q282; have p283 : 0 ≤ (x11_4 : Int) := of_decide_eq_true (by first | (with_reducible assumption) | assumption); have q283 : x11_4 < (((rd_T25 l0 x3_1).f1).length : Int) := of_decide_eq_true (by first | (with_reducible assumption) | assumption); obtain ⟨ad283, e283, hx283_0⟩ := Kd.at_int HR245_1.out x11_4 p283 q283; obtain rfl : ad255 = ad283 := (by injection e283)
                                     replace hx283_0 := (HB.out.cell (World.block_lt_of_cell? w _ hx283_0)).trans hx283_0
                                     replace p283 := eq_true p283; replace q283 := eq_true q283; have p284 : 0 ≤ (x13_6 : Int) := of_decide_eq_true (by first | (with_reducible assumption) | assumption); have q284 : x13_6 < (t247.length : Int) := of_decide_eq_true (by first | (with_reducible assumption) | assumption); obtain ⟨ad284, e284, hx284_0⟩ := Kd.at_int (Kd.R_reads' HO_6.out).2.2 x13_6 p284 q284; obtain rfl : ad253 = ad284 := (by injection e284); replace p284 := eq_true p284; replace q284 := eq_true q284; have p285 : 0 ≤ (x11_4 : Int) := of_decide_eq_true (by first | (with_reducible assumption) | assumption); have q285 : x11_4 < (t247.length : Int) := of_decide_eq_true (by first | (with_reducible assumption) | assumption); obtain ⟨ad285, e285, hx285_0⟩ := Kd.at_int (Kd.R_reads' HO_6.out).2.2 x11_4 p285 q285; obtain rfl : ad253 = ad285 := (by injection e285); replace p285 := eq_true p285; replace q285 := eq_true q285; have p286 : 0 ≤ (x13_6 : Int) := of_decide_eq_true (by first | (with_reducible assumption) | assumption); have q286 : x13_6 < (t247.length : Int) := of_decide_eq_true (by first | (with_reducible assumption) | assumption); obtain ⟨ad286, e286, hx286_0⟩ := Kd.at_int (Kd.R_reads' HO_6.out).2.2 x13_6 p286 q286; obtain rfl : ad253 = ad286 := (by injection e286); replace p286 := eq_true p286; replace q286 := eq_true q286; have p287 : 0 ≤ (x11_4 : Int) := of_decide_eq_true (by first | (with_reducible assumption) | assumption); have q287 : x11_4 < (t247.length : Int) := of_decide_eq_true (by first | (with_reducible assumption) | assumption); obtain ⟨ad287, e287, hx287_0⟩ := Kd.at_int (Kd.R_reads' HO_6.out).2.2 x11_4 p287 q287; obtain rfl : ad253 = ad287 := (by injection e287); replace p287 := eq_true p287; replace q287 := eq_true q287
                                     go_wp2
                                     repeat (go_quiet (fail); try go_wp2)
                                     go_roundg k6
                                     case measure => have := HK1.out; have := HJ1.out; have := HK3.out; have := HK4.out; have := HJ18.out; have := HK6.out; omega
                                     case rel => exact ⟨(wrap64 (x13_6 + 1)), (by first | rfl | (simp; done) | (simp [*]; done)), H', ⟨by have := HK1.out; have := HJ1.out; have := HK3.out; have := HK4.out; have := HJ18.out; have := HK6.out; omega⟩, ⟨by (with_reducible repeat (first | apply Kd.R_alloc | apply Kd.R_drewN | apply Kd.R_drew)); exact HO_6.out⟩, ⟨by repeat (first | (with_reducible first | exact HB.out | apply below_alloc | apply pw_below_drewN | apply below_drew1) | exact HB.out)⟩⟩
                                  ·rw [if_neg c43] at H
                                   have c43b0 : ((rd ((rd_T25 l0 x3_1).f1) x13_6) == (rd ((rd_T25 l0 x3_1).f1) x11_4)) = false := beq_eq_false_iff_ne.mpr c43
                                   have c43b1 : ((rd ((rd_T25 l0 x3_1).f1) x13_6) != (rd ((rd_T25 l0 x3_1).f1) x11_4)) = true := bne_iff_ne.mpr c43
                                   have H' := Aside0.mk H
                                   clear H; have p258 : 0 ≤ (x13_6 : Int) := of_decide_eq_true (by first | (with_reducible assumption) | assumption); have q258 : x13_6 < (((rd_T25 l0 x3_1).f1).length : Int) := of_decide_eq_true (by first | (with_reducible assumption) | assumption); obtain ⟨ad258, e258, hx258_0⟩ := Kd.at_int HR245_1.out x13_6 p258 q258; obtain rfl : ad255 = ad258 := (by injection e258)
                                   replace hx258_0 := (HB.out.cell (World.block_lt_of_cell? w _ hx258_0)).trans hx258_0
                                   replace p258 := eq_true p258; replace q258 := eq_true q258; have p259 : 0 ≤ (x11_4 : Int) := of_decide_eq_true (by first | (with_reducible assumption) | assumption); have q259 : x11_4 < (((rd_T25 l0 x3_1).f1).length : Int) := of_decide_eq_true (by first | (with_reducible assumption) | assumption); obtain ⟨ad259, e259, hx259_0⟩ := Kd.at_int HR245_1.out x11_4 p259 q259; obtain rfl : ad255 = ad259 := (by injection e259)
                                   replace hx259_0 := (HB.out.cell (World.block_lt_of_cell? w _ hx259_0)).trans hx259_0
                                   replace p259 := eq_true p259; replace q259 := eq_true q259; have p278 : 0 ≤ (x13_6 : Int) := of_decide_eq_true (by first | (with_reducible assumption) | assumption); have q278 : x13_6 < (((rd_T25 l0 x3_1).f1).length : Int) := of_decide_eq_true (by first | (with_reducible assumption) | assumption); obtain ⟨ad278, e278, hx278_0⟩ := Kd.at_int HR245_1.out x13_6 p278 q278; obtain rfl : ad255 = ad278 := (by injection e278)
                                   replace hx278_0 := (HB.out.cell (World.block_lt_of_cell? w _ hx278_0)).trans hx278_0
                                   replace p278 := eq_true p278; replace q278 := eq_true q278; have p279 : 0 ≤ (x11_4 : Int) := of_decide_eq_true (by first | (with_reducible assumption) | assumption); have q279 : x11_4 < (((rd_T25 l0 x3_1).f1).length : Int) := of_decide_eq_true (by first | (with_reducible assumption) | assumption); obtain ⟨ad279, e279, hx279_0⟩ := Kd.at_int HR245_1.out x11_4 p279 q279; obtain rfl : ad255 = ad279 := (by injection e279)
                                   replace hx279_0 := (HB.out.cell (World.block_lt_of_cell? w _ hx279_0)).trans hx279_0
                                   replace p279 := eq_true p279; replace q279 := eq_true q279; have p280 : 0 ≤ (x13_6 : Int) := of_decide_eq_true (by first | (with_reducible assumption) | assumption); have q280 : x13_6 < (t247.length : Int) := of_decide_eq_true (by first | (with_reducible assumption) | assumption); obtain ⟨ad280, e280, hx280_0⟩ := Kd.at_int (Kd.R_reads' HO_6.out).2.2 x13_6 p280 q280; obtain rfl : ad253 = ad280 := (by injection e280); replace p280 := eq_true p280; replace q280 := eq_true q280; have p281 : 0 ≤ (x11_4 : Int) := of_decide_eq_true (by first | (with_reducible assumption) | assumption); have q281 : x11_4 < (t247.length : Int) := of_decide_eq_true (by first | (with_reducible assumption) | assumption); obtain ⟨ad281, e281, hx281_0⟩ := Kd.at_int (Kd.R_reads' HO_6.out).2.2 x11_4 p281 q281; obtain rfl : ad253 = ad281 := (by injection e281); replace p281 := eq_true p281; replace q281 := eq_true q281; have p282 : 0 ≤ (x13_6 : Int) := of_decide_eq_true (by first | (with_reducible assumption) | assumption); have q282 : x13_6 < (((rd_T25 l0 x3_1).f1).length : Int) := of_decide_eq_true (by first | (with_reducible assumption) | assumption); obtain ⟨ad282, e282, hx282_0⟩ := Kd.at_int HR245_1.out x13_6 p282 q282; obtain rfl : ad255 = ad282 := (by injection e282)
                                   replace hx282_0 := (HB.out.cell (World.block_lt_of_cell? w _ hx282_0)).trans hx282_0
                                   replace p282 := eq_true p282; replace q282 := eq_true q282; have p283 : 0 ≤ (x11_4 : Int) := of_decide_eq_true (by first | (with_reducible assumption) | assumption); have q283 : x11_4 < (((rd_T25 l0 x3_1).f1).length : Int) := of_decide_eq_true (by first | (with_reducible assumption) | assumption); obtain ⟨ad283, e283, hx283_0⟩ := Kd.at_int HR245_1.out x11_4 p283 q283; obtain rfl : ad255 = ad283 := (by injection e283)
                                   replace hx283_0 := (HB.out.cell (World.block_lt_of_cell? w _ hx283_0)).trans hx283_0
                                   replace p283 := eq_true p283; replace q283 := eq_true q283
                                   go_wp2
                                   repeat (go_quiet (fail); try go_wp2)
                                   go_roundg k6
                                   case measure => have := HK1.out; have := HJ1.out; have := HK3.out; have := HK4.out; have := HJ18.out; have := HK6.out; omega
                                   case rel => exact ⟨(wrap64 (x13_6 + 1)), (by first | rfl | (simp; done) | (simp [*]; done)), H', ⟨by have := HK1.out; have := HJ1.out; have := HK3.out; have := HK4.out; have := HJ18.out; have := HK6.out; omega⟩, ⟨by (with_reducible repeat (first | apply Kd.R_alloc | apply Kd.R_drewN | apply Kd.R_drew)); exact HO_6.out⟩, ⟨by repeat (first | (with_reducible first | exact HB.out | apply below_alloc | apply pw_below_drewN | apply below_drew1) | exact HB.out)⟩⟩
                                ·rw [if_neg c41] at H
                                 exact absurd H (by simp)
                               ·rw [if_neg c40] at H
                                exact absurd H (by simp)
                              ·rw [if_neg c39] at H
                               have c39b0 : decide ((rd ((rd_T25 l0 x3_1).f1) x13_6) < (rd ((rd_T25 l0 x3_1).f1) x11_4)) = false := decide_eq_false c39
                               clear c39
                               by_cases c46 : (rd ((rd_T25 l0 x3_1).f1) x13_6) = (rd ((rd_T25 l0 x3_1).f1) x11_4)
                               ·rw [if_pos c46] at H
                                have c46b0 : ((rd ((rd_T25 l0 x3_1).f1) x13_6) == (rd ((rd_T25 l0 x3_1).f1) x11_4)) = true := beq_iff_eq.mpr c46
                                have c46b1 : ((rd ((rd_T25 l0 x3_1).f1) x13_6) != (rd ((rd_T25 l0 x3_1).f1) x11_4)) = false := bne_eq_false_iff_eq.mpr c46
                                clear c46
                                by_cases c47 : x13_6 < (t247.length : Int)
                                ·rw [if_pos c47] at H
                                 have c47b0 : decide (x13_6 < (t247.length : Int)) = true := decide_eq_true c47
                                 clear c47
                                 by_cases c48 : x11_4 < (t247.length : Int)
                                 ·rw [if_pos c48] at H
                                  have c48b0 : decide (x11_4 < (t247.length : Int)) = true := decide_eq_true c48
                                  clear c48
                                  by_cases c49 : (rd t247 x13_6) < (rd t247 x11_4)
                                  ·rw [if_pos c49] at H
                                   have c49b0 : decide ((rd t247 x13_6) < (rd t247 x11_4)) = true := decide_eq_true c49
                                   clear c49
                                   obtain rfl := Option.some.inj H
                                   have p258 : 0 ≤ (x13_6 : Int) := of_decide_eq_true (by first | (with_reducible assumption) | assumption); have q258 : x13_6 < (((rd_T25 l0 x3_1).f1).length : Int) := of_decide_eq_true (by first | (with_reducible assumption) | assumption); obtain ⟨ad258, e258, hx258_0⟩ := Kd.at_int HR245_1.out x13_6 p258 q258; obtain rfl : ad255 = ad258 := (by injection e258)
                                   replace hx258_0 := (HB.out.cell (World.block_lt_of_cell? w _ hx258_0)).trans hx258_0
                                   replace p258 := eq_true p258; replace q258 := eq_true q258; have p259 : 0 ≤ (x11_4 : Int) := of_decide_eq_true (by first | (with_reducible assumption) | assumption); have q259 : x11_4 < (((rd_T25 l0 x3_1).f1).length : Int) := of_decide_eq_true (by first | (with_reducible assumption) | assumption); obtain ⟨ad259, e259, hx259_0⟩ := Kd.at_int HR245_1.out x11_4 p259 q259; obtain rfl : ad255 = ad259 := (by injection e259)
                                   replace hx259_0 := (HB.out.cell (World.block_lt_of_cell? w _ hx259_0)).trans hx259_0
                                   replace p259 := eq_true p259; replace q259 := eq_true q259; have p278 : 0 ≤ (x13_6 : Int) := of_decide_eq_true (by first | (with_reducible assumption) | assumption); have q278 : x13_6 < (((rd_T25 l0 x3_1).f1).length : Int) := of_decide_eq_true (by first | (with_reducible assumption) | assumption); obtain ⟨ad278, e278, hx278_0⟩ := Kd.at_int HR245_1.out x13_6 p278 q278; obtain rfl : ad255 = ad278 := (by injection e278)
                                   replace hx278_0 := (HB.out.cell (World.block_lt_of_cell? w _ hx278_0)).trans hx278_0
                                   replace p278 := eq_true p278; replace q278 := eq_true q278; have p279 : 0 ≤ (x11_4 : Int) := of_decide_eq_true (by first | (with_reducible assumption) | assumption); have q279 : x11_4 < (((rd_T25 l0 x3_1).f1).length : Int) := of_decide_eq_true (by first | (with_reducible assumption) | assumption); obtain ⟨ad279, e279, hx279_0⟩ := Kd.at_int HR245_1.out x11_4 p279 q279; obtain rfl : ad255 = ad279 := (by injection e279)
                                   replace hx279_0 := (HB.out.cell (World.block_lt_of_cell? w _ hx279_0)).trans hx279_0
                                   replace p279 := eq_true p279; replace q279 := eq_true q279; have p288 : 0 ≤ (x13_6 : Int) := of_decide_eq_true (by first | (with_reducible assumption) | assumption); have q288 : x13_6 < (((rd_T25 l0 x3_1).f1).length : Int) := of_decide_eq_true (by first | (with_reducible assumption) | assumption); obtain ⟨ad288, e288, hx288_0⟩ := Kd.at_int HR245_1.out x13_6 p288 q288; obtain rfl : ad255 = ad288 := (by injection e288)
                                   replace hx288_0 := (HB.out.cell (World.block_lt_of_cell? w _ hx288_0)).trans hx288_0
                                   replace p288 := eq_true p288; replace q288 := eq_true q288; have p289 : 0 ≤ (x11_4 : Int) := of_decide_eq_true (by first | (with_reducible assumption) | assumption); have q289 : x11_4 < (((rd_T25 l0 x3_1).f1).length : Int) := of_decide_eq_true (by first | (with_reducible assumption) | assumption); obtain ⟨ad289, e289, hx289_0⟩ := Kd.at_int HR245_1.out x11_4 p289 q289; obtain rfl : ad255 = ad289 := (by injection e289)
                                   replace hx289_0 := (HB.out.cell (World.block_lt_of_cell? w _ hx289_0)).trans hx289_0
                                   replace p289 := eq_true p289; replace q289 := eq_true q289; have p290 : 0 ≤ (x13_6 : Int) := of_decide_eq_true (by first | (with_reducible assumption) | assumption); have q290 : x13_6 < (t247.length : Int) := of_decide_eq_true (by first | (with_reducible assumption) | assumption); obtain ⟨ad290, e290, hx290_0⟩ := Kd.at_int (Kd.R_reads' HO_6.out).2.2 x13_6 p290 q290; obtain rfl : ad253 = ad290 := (by injection e290); replace p290 := eq_true p290; replace q290 := eq_true q290; have p291 : 0 ≤ (x11_4 : Int) := of_decide_eq_true (by first | (with_reducible assumption) | assumption); have q291 : x11_4 < (t247.length : Int) := of_decide_eq_true (by first | (with_reducible assumption) | assumption); obtain ⟨ad291, e291, hx291_0⟩ := Kd.at_int (Kd.R_reads' HO_6.out).2.2 x11_4 p291 q291; obtain rfl : ad253 = ad291 := (by injection e291); replace p291 := eq_true p291; replace q291 := eq_true q291
                                   go_wp2
                                   repeat (go_quiet (fail); try go_wp2)
                                   go_ret
                                   exact ⟨by first | rfl | (simp [errW_none, errW_some] <;> rfl) | (simp [*, errW_none, errW_some] <;> rfl), by repeat (first | (with_reducible first | exact HB.out | apply below_alloc | apply pw_below_drewN | apply below_drew1) | exact HB.out)⟩
                                  ·rw [if_neg c49] at H
                                   have c49b0 : decide ((rd t247 x13_6) < (rd t247 x11_4)) = false := decide_eq_false c49
                                   clear c49
                                   by_cases c50 : (rd t247 x13_6) > (wrap64 ((rd t247 x11_4) + 1))
                                   ·rw [if_pos c50] at H
                                    have c50b0 : decide ((wrap64 ((rd t247 x11_4) + 1)) < (rd t247 x13_6)) = true := decide_eq_true c50
                                    clear c50
                                    obtain rfl := Option.some.inj H
                                    have p258 : 0 ≤ (x13_6 : Int) := of_decide_eq_true (by first | (with_reducible assumption) | assumption); have q258 : x13_6 < (((rd_T25 l0 x3_1).f1).length : Int) := of_decide_eq_true (by first | (with_reducible assumption) | assumption); obtain ⟨ad258, e258, hx258_0⟩ := Kd.at_int HR245_1.out x13_6 p258 q258; obtain rfl : ad255 = ad258 := (by injection e258)
                                    replace hx258_0 := (HB.out.cell (World.block_lt_of_cell? w _ hx258_0)).trans hx258_0
                                    replace p258 := eq_true p258; replace q258 := eq_true q258; have p259 : 0 ≤ (x11_4 : Int) := of_decide_eq_true (by first | (with_reducible assumption) | assumption); have q259 : x11_4 < (((rd_T25 l0 x3_1).f1).length : Int) := of_decide_eq_true (by first | (with_reducible assumption) | assumption); obtain ⟨ad259, e259, hx259_0⟩ := Kd.at_int HR245_1.out x11_4 p259 q259; obtain rfl : ad255 = ad259 := (by injection e259)
                                    replace hx259_0 := (HB.out.cell (World.block_lt_of_cell? w _ hx259_0)).trans hx259_0
                                    replace p259 := eq_true p259; replace q259 := eq_true q259; have p278 : 0 ≤ (x13_6 : Int) := of_decide_eq_true (by first | (with_reducible assumption) | assumption); have q278 : x13_6 < (((rd_T25 l0 x3_1).f1).length : Int) := of_decide_eq_true (by first | (with_reducible assumption) | assumption); obtain ⟨ad278, e278, hx278_0⟩ := Kd.at_int HR245_1.out x13_6 p278 q278; obtain rfl : ad255 = ad278 := (by injection e278)
                                    replace hx278_0 := (HB.out.cell (World.block_lt_of_cell? w _ hx278_0)).trans hx278_0
                                    replace p278 := eq_true p278; replace q278 := eq_true q278; have p279 : 0 ≤ (x11_4 : Int) := of_decide_eq_true (by first | (with_reducible assumption) | assumption); have q279 : x11_4 < (((rd_T25 l0 x3_1).f1).length : Int) := of_decide_eq_true (by first | (with_reducible assumption) | assumption); obtain ⟨ad279, e279, hx279_0⟩ := Kd.at_int HR245_1.out x11_4 p279 q279; obtain rfl : ad255 = ad279 := (by injection e279)
                                    replace hx279_0 := (HB.out.cell (World.block_lt_of_cell? w _ hx279_0)).trans hx279_0
                                    replace p279 := eq_true p279; replace q279 := eq_true q279; have p288 : 0 ≤ (x13_6 : Int) := of_decide_eq_true (by first | (with_reducible assumption) | assumption); have q288 : x13_6 < (((rd_T25 l0 x3_1).f1).length : Int) := of_decide_eq_true (by first | (with_reducible assumption) | assumption); obtain ⟨ad288, e288, hx288_0⟩ := Kd.at_int HR245_1.out x13_6 p288 q288; obtain rfl : ad255 = ad288 := (by injection e288)
                                    replace hx288_0 := (HB.out.cell (World.block_lt_of_cell? w _ hx288_0)).trans hx288_0
                                    replace p288 := eq_true p288; replace q288 := eq_true q288; have p289 : 0 ≤ (x11_4 : Int) := of_decide_eq_true (by first | (with_reducible assumption) | assumption); have q289 : x11_4 < (((rd_T25 l0 x3_1).f1).length : Int) := of_decide_eq_true (by first | (with_reducible assumption) | assumption); obtain ⟨ad289, e289, hx289_0⟩ := Kd.at_int HR245_1.out x11_4 p289 q289; obtain rfl : ad255 = ad289 := (by injection e289)
                                    replace hx289_0 := (HB.out.cell (World.block_lt_of_cell? w _ hx289_0)).trans hx289_0
                                    replace p289 := eq_true p289; replace q289 := eq_true q289; have p290 : 0 ≤ (x13_6 : Int) := of_decide_eq_true (by first | (with_reducible assumption) | assumption); have q290 : x13_6 < (t247.length : Int) := of_decide_eq_true (by first | (with_reducible assumption) | assumption); obtain ⟨ad290, e290, hx290_0⟩ := Kd.at_int (Kd.R_reads' HO_6.out).2.2 x13_6 p290 q290; obtain rfl : ad253 = ad290 := (by injection e290); replace p290 := eq_true p290; replace q290 := eq_true q290; have p291 : 0 ≤ (x11_4 : Int) := of_decide_eq_true (by first | (with_reducible assumption) | assumption); have q291 : x11_4 < (t247.length : Int) := of_decide_eq_true (by first | (with_reducible assumption) | assumption); obtain ⟨ad291, e291, hx291_0⟩ := Kd.at_int (Kd.R_reads' HO_6.out).2.2 x11_4 p291 q291; obtain rfl : ad253 = ad291 := (by injection e291); replace p291 := eq_true p291; replace q291 := eq_true q291; have p292 : 0 ≤ (x13_6 : Int) := of_decide_eq_true (by first | (with_reducible assumption) | assumption); have q292 : x13_6 < (t247.length : Int) := of_decide_eq_true (by first | (with_reducible assumption) | assumption); obtain ⟨ad292, e292, hx292_0⟩ := Kd.at_int (Kd.R_reads' HO_6.out).2.2 x13_6 p292 q292; obtain rfl : ad253 = ad292 := (by injection e292); replace p292 := eq_true p292; replace q292 := eq_true q292; have p293 : 0 ≤ (x11_4 : Int) := of_decide_eq_true (by first | (with_reducible assumption) | assumption); have q293 : x11_4 < (t247.length : Int) := of_decide_eq_true (by first | (with_reducible assumption) | assumption); obtain ⟨ad293, e293, hx293_0⟩ := Kd.at_int (Kd.R_reads' HO_6.out).2.2 x11_4 p293 q293; obtain rfl : ad253 = ad293 := (by injection e293); replace p293 := eq_true p293; replace q293 := eq_true q293
                                    go_wp2
                                    repeat (go_quiet (fail); try go_wp2)
                                    go_ret
                                    exact ⟨by first | rfl | (simp [errW_none, errW_some] <;> rfl) | (simp [*, errW_none, errW_some] <;> rfl), by repeat (first | (with_reducible first | exact HB.out | apply below_alloc | apply pw_below_drewN | apply below_drew1) | exact HB.out)⟩
                                   ·rw [if_neg c50] at H
                                    have c50b0 : decide ((wrap64 ((rd t247 x11_4) + 1)) < (rd t247 x13_6)) = false := decide_eq_false c50
                                    clear c50
                                    have H' := Aside0.mk H
                                    clear H; have p258 : 0 ≤ (x13_6 : Int) := of_decide_eq_true (by first | (with_reducible assumption) | assumption); have q258 : x13_6 < (((rd_T25 l0 x3_1).f1).length : Int) := of_decide_eq_true (by first | (with_reducible assumption) | assumption); obtain ⟨ad258, e258, hx258_0⟩ := Kd.at_int HR245_1.out x13_6 p258 q258; obtain rfl : ad255 = ad258 := (by injection e258)
                                    replace hx258_0 := (HB.out.cell (World.block_lt_of_cell? w _ hx258_0)).trans hx258_0
                                    replace p258 := eq_true p258; replace q258 := eq_true q258; have p259 : 0 ≤ (x11_4 : Int) := of_decide_eq_true (by first | (with_reducible assumption) | assumption); have q259 : x11_4 < (((rd_T25 l0 x3_1).f1).length : Int) := of_decide_eq_true (by first | (with_reducible assumption) | assumption); obtain ⟨ad259, e259, hx259_0⟩ := Kd.at_int HR245_1.out x11_4 p259 q259; obtain rfl : ad255 = ad259 := (by injection e259)
                                    replace hx259_0 := (HB.out.cell (World.block_lt_of_cell? w _ hx259_0)).trans hx259_0
                                    replace p259 := eq_true p259; replace q259 := eq_true q259; have p278 : 0 ≤ (x13_6 : Int) := of_decide_eq_true (by first | (with_reducible assumption) | assumption); have q278 : x13_6 < (((rd_T25 l0 x3_1).f1).length : Int) := of_decide_eq_true (by first | (with_reducible assumption) | assumption); obtain ⟨ad278, e278, hx278_0⟩ := Kd.at_int HR245_1.out x13_6 p278 q278; obtain rfl : ad255 = ad278 := (by injection e278)
                                    replace hx278_0 := (HB.out.cell (World.block_lt_of_cell? w _ hx278_0)).trans hx278_0
                                    replace p278 := eq_true p278; replace q278 := eq_true q278; have p279 : 0 ≤ (x11_4 : Int) := of_decide_eq_true (by first | (with_reducible assumption) | assumption); have q279 : x11_4 < (((rd_T25 l0 x3_1).f1).length : Int) := of_decide_eq_true (by first | (with_reducible assumption) | assumption); obtain ⟨ad279, e279, hx279_0⟩ := Kd.at_int HR245_1.out x11_4 p279 q279; obtain rfl : ad255 = ad279 := (by injection e279)
                                    replace hx279_0 := (HB.out.cell (World.block_lt_of_cell? w _ hx279_0)).trans hx279_0
                                    replace p279 := eq_true p279; replace q279 := eq_true q279; have p288 : 0 ≤ (x13_6 : Int) := of_decide_eq_true (by first | (with_reducible assumption) | assumption); have q288 : x13_6 < (((rd_T25 l0 x3_1).f1).length : Int) := of_decide_eq_true (by first | (with_reducible assumption) | assumption); obtain ⟨ad288, e288, hx288_0⟩ := Kd.at_int HR245_1.out x13_6 p288 q288; obtain rfl : ad255 = ad288 := (by injection e288)
                                    replace hx288_0 := (HB.out.cell (World.block_lt_of_cell? w _ hx288_0)).trans hx288_0
                                    replace p288 := eq_true p288; replace q288 := eq_true q288; have p289 : 0 ≤ (x11_4 : Int) := of_decide_eq_true (by first | (with_reducible assumption) | assumption); have q289 : x11_4 < (((rd_T25 l0 x3_1).f1).length : Int) := of_decide_eq_true (by first | (with_reducible assumption) | assumption); obtain ⟨ad289, e289, hx289_0⟩ := Kd.at_int HR245_1.out x11_4 p289 q289; obtain rfl : ad255 = ad289 := (by injection e289)
                                    replace hx289_0 := (HB.out.cell (World.block_lt_of_cell? w _ hx289_0)).trans hx289_0
                                    replace p289 := eq_true p289; replace q289 := eq_true q289; have p290 : 0 ≤ (x13_6 : Int) := of_decide_eq_true (by first | (with_reducible assumption) | assumption); have q290 : x13_6 < (t247.length : Int) := of_decide_eq_true (by first | (with_reducible assumption) | assumption); obtain ⟨ad290, e290, hx290_0⟩ := Kd.at_int (Kd.R_reads' HO_6.out).2.2 x13_6 p290 q290; obtain rfl : ad253 = ad290 := (by injection e290); replace p290 := eq_true p290; replace q290 := eq_true q290; have p291 : 0 ≤ (x11_4 : Int) := of_decide_eq_true (by first | (with_reducible assumption) | assumption); have q291 : x11_4 < (t247.length : Int) := of_decide_eq_true (by first | (with_reducible assumption) | assumption); obtain ⟨ad291, e291, hx291_0⟩ := Kd.at_int (Kd.R_reads' HO_6.out).2.2 x11_4 p291 q291; obtain rfl : ad253 = ad291 := (by injection e291); replace p291 := eq_true p291; replace q291 := eq_true q291; have p292 : 0 ≤ (x13_6 : Int) := of_decide_eq_true (by first | (with_reducible assumption) | assumption); have q292 : x13_6 < (t247.length : Int) := of_decide_eq_true (by first | (with_reducible assumption) | assumption); obtain ⟨ad292, e292, hx292_0⟩ := Kd.at_int (Kd.R_reads' HO_6.out).2.2 x13_6 p292 q292; obtain rfl : ad253 = ad292 := (by injection e292); replace p292 := eq_true p292; replace q292 := eq_true q292; have p293 : 0 ≤ (x11_4 : Int) := of_decide_eq_true (by first | (with_reducible assumption) | assumption); have q293 : x11_4 < (t247.length : Int) := of_decide_eq_true (by first | (with_reducible assumption) | assumption); obtain ⟨ad293, e293, hx293_0⟩ := Kd.at_int (Kd.R_reads' HO_6.out).2.2 x11_4 p293 q293; obtain rfl : ad253 = ad293 := (by injection e293); replace p293 := eq_true p293; replace q293 := eq_true q293
                                    go_wp2
                                    repeat (go_quiet (fail); try go_wp2)
                                    go_roundg k6
                                    case measure => have := HK1.out; have := HJ1.out; have := HK3.out; have := HK4.out; have := HJ18.out; have := HK6.out; omega
                                    case rel => exact ⟨(wrap64 (x13_6 + 1)), (by first | rfl | (simp; done) | (simp [*]; done)), H', ⟨by have := HK1.out; have := HJ1.out; have := HK3.out; have := HK4.out; have := HJ18.out; have := HK6.out; omega⟩, ⟨by (with_reducible repeat (first | apply Kd.R_alloc | apply Kd.R_drewN | apply Kd.R_drew)); exact HO_6.out⟩, ⟨by repeat (first | (with_reducible first | exact HB.out | apply below_alloc | apply pw_below_drewN | apply below_drew1) | exact HB.out)⟩⟩
                                 ·rw [if_neg c48] at H
                                  exact absurd H (by simp)
                                ·rw [if_neg c47] at H
                                 exact absurd H (by simp)
                               ·rw [if_neg c46] at H
                                have c46b0 : ((rd ((rd_T25 l0 x3_1).f1) x13_6) == (rd ((rd_T25 l0 x3_1).f1) x11_4)) = false := beq_eq_false_iff_ne.mpr c46
                                have c46b1 : ((rd ((rd_T25 l0 x3_1).f1) x13_6) != (rd ((rd_T25 l0 x3_1).f1) x11_4)) = true := bne_iff_ne.mpr c46
                                have H' := Aside0.mk H
                                clear H; have p258 : 0 ≤ (x13_6 : Int) := of_decide_eq_true (by first | (with_reducible assumption) | assumption); have q258 : x13_6 < (((rd_T25 l0 x3_1).f1).length : Int) := of_decide_eq_true (by first | (with_reducible assumption) | assumption); obtain ⟨ad258, e258, hx258_0⟩ := Kd.at_int HR245_1.out x13_6 p258 q258; obtain rfl : ad255 = ad258 := (by injection e258)
                                replace hx258_0 := (HB.out.cell (World.block_lt_of_cell? w _ hx258_0)).trans hx258_0
                                replace p258 := eq_true p258; replace q258 := eq_true q258; have p259 : 0 ≤ (x11_4 : Int) := of_decide_eq_true (by first | (with_reducible assumption) | assumption); have q259 : x11_4 < (((rd_T25 l0 x3_1).f1).length : Int) := of_decide_eq_true (by first | (with_reducible assumption) | assumption); obtain ⟨ad259, e259, hx259_0⟩ := Kd.at_int HR245_1.out x11_4 p259 q259; obtain rfl : ad255 = ad259 := (by injection e259)
                                replace hx259_0 := (HB.out.cell (World.block_lt_of_cell? w _ hx259_0)).trans hx259_0
                                replace p259 := eq_true p259; replace q259 := eq_true q259; have p278 : 0 ≤ (x13_6 : Int) := of_decide_eq_true (by first | (with_reducible assumption) | assumption); have q278 : x13_6 < (((rd_T25 l0 x3_1).f1).length : Int) := of_decide_eq_true (by first | (with_reducible assumption) | assumption); obtain ⟨ad278, e278, hx278_0⟩ := Kd.at_int HR245_1.out x13_6 p278 q278; obtain rfl : ad255 = ad278 := (by injection e278)
                                replace hx278_0 := (HB.out.cell (World.block_lt_of_cell? w _ hx278_0)).trans hx278_0
                                replace p278 := eq_true p278; replace q278 := eq_true q278; have p279 : 0 ≤ (x11_4 : Int) := of_decide_eq_true (by first | (with_reducible assumption) | assumption); have q279 : x11_4 < (((rd_T25 l0 x3_1).f1).length : Int) := of_decide_eq_true (by first | (with_reducible assumption) | assumption); obtain ⟨ad279, e279, hx279_0⟩ := Kd.at_int HR245_1.out x11_4 p279 q279; obtain rfl : ad255 = ad279 := (by injection e279)
                                replace hx279_0 := (HB.out.cell (World.block_lt_of_cell? w _ hx279_0)).trans hx279_0
                                replace p279 := eq_true p279; replace q279 := eq_true q279; have p288 : 0 ≤ (x13_6 : Int) := of_decide_eq_true (by first | (with_reducible assumption) | assumption); have q288 : x13_6 < (((rd_T25 l0 x3_1).f1).length : Int) := of_decide_eq_true (by first | (with_reducible assumption) | assumption); obtain ⟨ad288, e288, hx288_0⟩ := Kd.at_int HR245_1.out x13_6 p288 q288; obtain rfl : ad255 = ad288 := (by injection e288)
                                replace hx288_0 := (HB.out.cell (World.block_lt_of_cell? w _ hx288_0)).trans hx288_0
                                replace p288 := eq_true p288; replace q288 := eq_true q288; have p289 : 0 ≤ (x11_4 : Int) := of_decide_eq_true (by first | (with_reducible assumption) | assumption); have q289 : x11_4 < (((rd_T25 l0 x3_1).f1).length : Int) := of_decide_eq_true (by first | (with_reducible assumption) | assumption); obtain ⟨ad289, e289, hx289_0⟩ := Kd.at_int HR245_1.out x11_4 p289 q289; obtain rfl : ad255 = ad289 := (by injection e289)
                                replace hx289_0 := (HB.out.cell (World.block_lt_of_cell? w _ hx289_0)).trans hx289_0
                                replace p289 := eq_true p289; replace q289 := eq_true q289
                                go_wp2
                                repeat (go_quiet (fail); try go_wp2)
                                go_roundg k6
                                case measure => have := HK1.out; have := HJ1.out; have := HK3.out; have := HK4.out; have := HJ18.out; have := HK6.out; omega
                                case rel => exact ⟨(wrap64 (x13_6 + 1)), (by first | rfl | (simp; done) | (simp [*]; done)), H', ⟨by have := HK1.out; have := HJ1.out; have := HK3.out; have := HK4.out; have := HJ18.out; have := HK6.out; omega⟩, ⟨by (with_reducible repeat (first | apply Kd.R_alloc | apply Kd.R_drewN | apply Kd.R_drew)); exact HO_6.out⟩, ⟨by repeat (first | (with_reducible first | exact HB.out | apply below_alloc | apply pw_below_drewN | apply below_drew1) | exact HB.out)⟩⟩
                            ·rw [if_neg c28] at H
                             exact absurd H (by simp)
                           ·rw [if_neg c27] at H
                            exact absurd H (by simp)
                          ·rw [if_neg c26] at H
                           exact absurd H (by simp)
                         ·rw [if_neg c25] at H
                          exact absurd H (by simp)
                        ·rw [if_neg c24] at H
                         have c24b0 : decide (x13_6 < x11_4) = false := decide_eq_false c24
                         clear c24
                         have H' := Aside0.mk H
                         clear H
                         go_wp2
                         repeat (go_quiet (fail); try go_wp2)
                         go_roundg k6
                         case measure => have := HK1.out; have := HJ1.out; have := HK3.out; have := HK4.out; have := HJ18.out; have := HK6.out; omega
                         case rel => exact ⟨((wrap64 (x9_4 + (rd t247 x11_4)))), (wrap64 (x11_4 + 1)), (by first | rfl | (simp; done) | (simp [*]; done)), (by first | rfl | (simp; done) | (simp [*]; done)), H', ⟨by have := HK1.out; have := HJ1.out; have := HK3.out; have := HK4.out; have := HJ18.out; have := HK6.out; omega⟩, ⟨by (with_reducible repeat (first | apply Kd.R_alloc | apply Kd.R_drewN | apply Kd.R_drew)); exact HO_6.out⟩, ⟨by repeat (first | (with_reducible first | exact HB.out | apply below_alloc | apply pw_below_drewN | apply below_drew1) | exact HB.out)⟩⟩
                  ·rw [if_neg c18] at H
                   exact absurd H (by simp)
                 ·rw [if_neg c17] at H
                  exact absurd H (by simp)
                ·rw [if_neg c16] at H
                 have c16b0 : decide (x11_4 < (t247.length : Int)) = false := decide_eq_false c16
                 clear c16
                 by_cases c51 : x9_4 = ((rd_T25 l0 x3_1).f0)
                 ·rw [if_pos c51] at H
                  have c51b0 : (x9_4 == ((rd_T25 l0 x3_1).f0)) = true := beq_iff_eq.mpr c51
                  have c51b1 : (x9_4 != ((rd_T25 l0 x3_1).f0)) = false := bne_eq_false_iff_eq.mpr c51
                  clear c51
                  have H' := Aside0.mk H
                  clear H
                  go_wp2
                  repeat (go_quiet (fail); try go_wp2)
                  go_roundg k4
                  case measure => have := HK1.out; have := HJ1.out; have := HK3.out; have := HK4.out; omega
                  case rel => exact ⟨(wrap64 (x3_1 + 1)), (by first | rfl | (simp; done) | (simp [*]; done)), H', ⟨by have := HK1.out; have := HJ1.out; have := HK3.out; have := HK4.out; omega⟩, ⟨by repeat (first | (with_reducible first | exact HB.out | apply below_alloc | apply pw_below_drewN | apply below_drew1) | exact HB.out)⟩⟩
                 ·rw [if_neg c51] at H
                  have c51b0 : (x9_4 == ((rd_T25 l0 x3_1).f0)) = false := beq_eq_false_iff_ne.mpr c51
                  have c51b1 : (x9_4 != ((rd_T25 l0 x3_1).f0)) = true := bne_iff_ne.mpr c51
                  obtain rfl := Option.some.inj H
                  go_wp2
                  repeat (go_quiet (fail); try go_wp2)
                  go_ret
                  exact ⟨by first | rfl | (simp [errW_none, errW_some] <;> rfl) | (simp [*, errW_none, errW_some] <;> rfl), by repeat (first | (with_reducible first | exact HB.out | apply below_alloc | apply pw_below_drewN | apply below_drew1) | exact HB.out)⟩
             ·rw [if_neg c14] at H
              have c14b0 : ((t247.length : Int) == (((rd_T25 l0 x3_1).f1).length : Int)) = false := beq_eq_false_iff_ne.mpr c14
              have c14b1 : ((t247.length : Int) != (((rd_T25 l0 x3_1).f1).length : Int)) = true := bne_iff_ne.mpr c14
              have c14b2 : (t247.length == ((rd_T25 l0 x3_1).f1).length) = false := by first | simpa using c14 | (simp at c14 ⊢; omega)
              obtain rfl := Option.some.inj H
              obtain ⟨Ao52, co52, eo52⟩ := Kd.R_slice HO_6.out
              subst eo52
              go_wp2
              repeat (go_quiet (fail); try go_wp2)
              go_ret
              exact ⟨by first | rfl | (simp [errW_none, errW_some] <;> rfl) | (simp [*, errW_none, errW_some] <;> rfl), by repeat (first | (with_reducible first | exact HB.out | apply below_alloc | apply pw_below_drewN | apply below_drew1) | exact HB.out)⟩
         ·rw [if_neg c10] at H
          have c10b0 : (t251 == 0) = false := beq_eq_false_iff_ne.mpr c10
          have c10b1 : (t251 != 0) = true := bne_iff_ne.mpr c10
          have H' := Aside0.mk H
          clear H; have p244 : 0 ≤ (x3_1 : Int) := of_decide_eq_true (by first | (with_reducible assumption) | assumption); have q244 : x3_1 < (l0.length : Int) := of_decide_eq_true (by first | (with_reducible assumption) | assumption)
          obtain ⟨ad244, A244_1, c244_1, e244, hx244_0, hx244_1, hl244_1, hi244_1⟩ := at_T25 HR0.out x3_1 p244 q244
          cases e244
          replace hx244_0 := (HB.out.cell (World.block_lt_of_cell? w _ hx244_0)).trans hx244_0
          replace hx244_1 := (HB.out.cell (World.block_lt_of_cell? w _ hx244_1)).trans hx244_1
          have HR244_1 := Aside0.mk hi244_1; have HC244_1 := Aside0.mk hl244_1; clear hi244_1 hl244_1; replace p244 := eq_true p244; replace q244 := eq_true q244; have p245 : 0 ≤ (x3_1 : Int) := of_decide_eq_true (by first | (with_reducible assumption) | assumption); have q245 : x3_1 < (l0.length : Int) := of_decide_eq_true (by first | (with_reducible assumption) | assumption)
          obtain ⟨ad245, A245_1, c245_1, e245, hx245_0, hx245_1, hl245_1, hi245_1⟩ := at_T25 HR0.out x3_1 p245 q245
          obtain rfl : ad244 = ad245 := (by injection e245)
          replace hx245_0 := (HB.out.cell (World.block_lt_of_cell? w _ hx245_0)).trans hx245_0
          replace hx245_1 := (HB.out.cell (World.block_lt_of_cell? w _ hx245_1)).trans hx245_1
          have HR245_1 := Aside0.mk hi245_1; have HC245_1 := Aside0.mk hl245_1; clear hi245_1 hl245_1; replace p245 := eq_true p245; replace q245 := eq_true q245
          have ea_ := Option.some.inj (hx244_1.symm.trans hx245_1)
          injection ea_ with ea_ en_ ec_
          subst ea_
          subst ec_
          clear en_; have p246 : 0 ≤ (x3_1 : Int) := of_decide_eq_true (by first | (with_reducible assumption) | assumption); have q246 : x3_1 < (l0.length : Int) := of_decide_eq_true (by first | (with_reducible assumption) | assumption)
          obtain ⟨ad246, A246_1, c246_1, e246, hx246_0, hx246_1, hl246_1, hi246_1⟩ := at_T25 HR0.out x3_1 p246 q246
          obtain rfl : ad244 = ad246 := (by injection e246)
          replace hx246_0 := (HB.out.cell (World.block_lt_of_cell? w _ hx246_0)).trans hx246_0
          replace hx246_1 := (HB.out.cell (World.block_lt_of_cell? w _ hx246_1)).trans hx246_1
          have HR246_1 := Aside0.mk hi246_1; have HC246_1 := Aside0.mk hl246_1; clear hi246_1 hl246_1; replace p246 := eq_true p246; replace q246 := eq_true q246
          have ea_ := Option.some.inj (hx244_1.symm.trans hx246_1)
          injection ea_ with ea_ en_ ec_
          subst ea_
          subst ec_
          clear en_
          go_wp2_with (first | (go_at_call 14; (with_reducible refine (share_Split.calls kj1 ((rd_T25 l0 x3_1).f0) _ _ ((rd_T25 l0 x3_1).f1) t247 t248 _ ?side1 ?side2 A8.out).mono ?_); (case side1 => repeat (first | exact (Kd.C_below HR245_1.out HB.out) | (with_reducible refine Kd.C_alloc ?_ _) | (with_reducible refine Kd.C_drewN ?_ _) | (with_reducible refine Kd.C_drew ?_))); (case side2 => exact HC245_1.out); rintro e w53 ⟨v249, rfl, ho0, hb⟩; have n0_ := Aside0.mk (Kd.R_lower ho0 (below_size (by repeat (first | (with_reducible first | exact HB.out | apply below_alloc | apply pw_below_drewN | apply below_drew1) | exact HB.out)))); have n1_ := Aside0.mk (below_step (by repeat (first | (with_reducible first | exact HB.out | apply below_alloc | apply pw_below_drewN | apply below_drew1) | exact HB.out)) hb); clear HB; have HO250 := n0_; have HB := n1_; clear n0_ n1_; (try clear hb); (try clear hb2); (try clear hk); (try clear hi); (try clear ho0)) | (go_at_call 16; (with_reducible refine (arraslaw2_num.calls t248 t251 _ A9.out).mono ?_); rintro e w' ⟨rfl, ⟨nd, rfl⟩⟩; (try first | exact ⟨rfl, _, World.drewN_drewN _ _ _⟩ | exact ⟨rfl, _, Eq.trans (World.drewN_drewN _ _ _) (congrArg (World.drewN _) (Nat.add_assoc _ _ _))⟩)))
          repeat (go_quiet (first | (go_at_call 14; (with_reducible refine (share_Split.calls kj1 ((rd_T25 l0 x3_1).f0) _ _ ((rd_T25 l0 x3_1).f1) t247 t248 _ ?side1 ?side2 A8.out).mono ?_); (case side1 => repeat (first | exact (Kd.C_below HR245_1.out HB.out) | (with_reducible refine Kd.C_alloc ?_ _) | (with_reducible refine Kd.C_drewN ?_ _) | (with_reducible refine Kd.C_drew ?_))); (case side2 => exact HC245_1.out); rintro e w53 ⟨v249, rfl, ho0, hb⟩; have n0_ := Aside0.mk (Kd.R_lower ho0 (below_size (by repeat (first | (with_reducible first | exact HB.out | apply below_alloc | apply pw_below_drewN | apply below_drew1) | exact HB.out)))); have n1_ := Aside0.mk (below_step (by repeat (first | (with_reducible first | exact HB.out | apply below_alloc | apply pw_below_drewN | apply below_drew1) | exact HB.out)) hb); clear HB; have HO250 := n0_; have HB := n1_; clear n0_ n1_; (try clear hb); (try clear hb2); (try clear hk); (try clear hi); (try clear ho0)) | (go_at_call 16; (with_reducible refine (arraslaw2_num.calls t248 t251 _ A9.out).mono ?_); rintro e w' ⟨rfl, ⟨nd, rfl⟩⟩; (try first | exact ⟨rfl, _, World.drewN_drewN _ _ _⟩ | exact ⟨rfl, _, Eq.trans (World.drewN_drewN _ _ _) (congrArg (World.drewN _) (Nat.add_assoc _ _ _))⟩))); try go_wp2_with (first | (go_at_call 14; (with_reducible refine (share_Split.calls kj1 ((rd_T25 l0 x3_1).f0) _ _ ((rd_T25 l0 x3_1).f1) t247 t248 _ ?side1 ?side2 A8.out).mono ?_); (case side1 => repeat (first | exact (Kd.C_below HR245_1.out HB.out) | (with_reducible refine Kd.C_alloc ?_ _) | (with_reducible refine Kd.C_drewN ?_ _) | (with_reducible refine Kd.C_drew ?_))); (case side2 => exact HC245_1.out); rintro e w53 ⟨v249, rfl, ho0, hb⟩; have n0_ := Aside0.mk (Kd.R_lower ho0 (below_size (by repeat (first | (with_reducible first | exact HB.out | apply below_alloc | apply pw_below_drewN | apply below_drew1) | exact HB.out)))); have n1_ := Aside0.mk (below_step (by repeat (first | (with_reducible first | exact HB.out | apply below_alloc | apply pw_below_drewN | apply below_drew1) | exact HB.out)) hb); clear HB; have HO250 := n0_; have HB := n1_; clear n0_ n1_; (try clear hb); (try clear hb2); (try clear hk); (try clear hi); (try clear ho0)) | (go_at_call 16; (with_reducible refine (arraslaw2_num.calls t248 t251 _ A9.out).mono ?_); rintro e w' ⟨rfl, ⟨nd, rfl⟩⟩; (try first | exact ⟨rfl, _, World.drewN_drewN _ _ _⟩ | exact ⟨rfl, _, Eq.trans (World.drewN_drewN _ _ _) (congrArg (World.drewN _) (Nat.add_assoc _ _ _))⟩))))
          go_roundg kj1
          case measure => have := HK1.out; have := HJ1.out; omega
          case rel => exact ⟨(wrap64 (x3_1 + 1)), (by first | rfl | (simp; done) | (simp [*]; done)), H', ⟨by have := HK1.out; have := HJ1.out; omega⟩, ⟨by repeat (first | (with_reducible first | exact HB.out | apply below_alloc | apply pw_below_drewN | apply below_drew1) | exact HB.out)⟩⟩
       ·rw [if_neg c6] at H
        exact absurd H (by simp)
      ·rw [if_neg c5] at H
       exact absurd H (by simp)
     ·replace c4 := Bool.eq_false_iff.mpr c4
      subst c4
      have H1 : ((arraslaw2_wakes.f kj1).bind fun t243 => (some t243)) = some r := by rw [if_neg (show ¬ (false = true) by decide)] at H; exact H
      clear H; have H := H1; clear H1
      replace H := Option.bind_eq_some_iff.mp H
      obtain ⟨t243, A540, H⟩ := H
      replace H : (some t243) = some r := H
      have A54 := Aside0.mk A540; clear A540
      obtain rfl := Option.some.inj H
      go_wp2_with (first | (go_at_call 20; (with_reducible refine (arraslaw2_wakes.calls kj1  t243 _ A54.out).mono ?_); rintro e w55 ⟨rfl, hb⟩; have n0_ := Aside0.mk (below_step (by repeat (first | (with_reducible first | exact HB.out | apply below_alloc | apply pw_below_drewN | apply below_drew1) | exact HB.out)) hb); clear HB; have HB := n0_; clear n0_; (try clear hb); (try clear hb2); (try clear hk); (try clear hi)))
      repeat (go_quiet (first | (go_at_call 20; (with_reducible refine (arraslaw2_wakes.calls kj1  t243 _ A54.out).mono ?_); rintro e w55 ⟨rfl, hb⟩; have n0_ := Aside0.mk (below_step (by repeat (first | (with_reducible first | exact HB.out | apply below_alloc | apply pw_below_drewN | apply below_drew1) | exact HB.out)) hb); clear HB; have HB := n0_; clear n0_; (try clear hb); (try clear hb2); (try clear hk); (try clear hi))); try go_wp2_with (first | (go_at_call 20; (with_reducible refine (arraslaw2_wakes.calls kj1  t243 _ A54.out).mono ?_); rintro e w55 ⟨rfl, hb⟩; have n0_ := Aside0.mk (below_step (by repeat (first | (with_reducible first | exact HB.out | apply below_alloc | apply pw_below_drewN | apply below_drew1) | exact HB.out)) hb); clear HB; have HB := n0_; clear n0_; (try clear hb); (try clear hb2); (try clear hk); (try clear hi))))
      go_ret
      exact ⟨by first | rfl | (simp [errW_none, errW_some] <;> rfl) | (simp [*, errW_none, errW_some] <;> rfl), by repeat (first | (with_reducible first | exact HB.out | apply below_alloc | apply pw_below_drewN | apply below_drew1) | exact HB.out)⟩

end Go.Proofs.Ytjjlmmebkemlgaa.PS
