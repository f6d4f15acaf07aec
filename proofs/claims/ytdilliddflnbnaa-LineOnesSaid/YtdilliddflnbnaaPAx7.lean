-- Written by wprint.py, a program of this session's, over the kit's print.
import Derived.Test.YtdilliddflnbnaaPAx0
import Derived.Test.YtdilliddflnbnaaPAx1
import Derived.Test.YtdilliddflnbnaaPAx2
import Derived.Test.YtdilliddflnbnaaPAx3
import Derived.Test.YtdilliddflnbnaaPAx6
namespace Go.Proofs.Ytdilliddflnbnaa.PA
open Go.RowKit Go.Proofs.YtdilliddflnbnaaW.PrintWords Go.Proofs.YtdilliddflnbnaaW.PrintLast Go.Proofs.YtdilliddflnbnaaW.PrintMore
attribute [local go_sem] max2_int min2_int max_two min_two max_three min_three max_four min_four   -- for this text's walks alone
set_option linter.unusedVariables false
set_option linter.unusedSimpArgs false

/-! ### arraslaw19_LineOnes: function 5 -/
mutual
def arraslaw19_LineOnes.l0 : Nat → List (S25) → Int → Option (Bool)
  | 0, _, _ => none
  | k + 1, x0, x3 => if x3 < (x0.length : Int) then (arraslaw19_LineOnes.j1 k x0 x3 (decide (x3 < 12))) else (arraslaw19_LineOnes.j1 k x0 x3 false)
def arraslaw19_LineOnes.j1 : Nat → List (S25) → Int → Bool → Option (Bool)
  | 0, _, _, _ => none
  | k + 1, x0, x3, x23 => if x23 = true then (if 0 ≤ x3 then (if x3 < (x0.length : Int) then ((arraslaw0_Within.f ((rd_T25 x0 x3).f1) 100).bind fun t236 => (arraslaw19_LineOnes.l1 k x0 x3 ([] : List Int) 0 t236 0)) else (none)) else (none)) else ((arraslaw19_wakes.f k).bind fun t234 => (some t234))
def arraslaw19_LineOnes.j3 : Nat → List (S25) → Int → List Int → Int → Int → Option (Bool)
  | 0, _, _, _, _, _ => none
  | k + 1, x0, x3, x4, x5, x6 => if (x4.length : Int) = 0 then (arraslaw19_LineOnes.l0 k x0 (wrap64 (x3 + 1))) else ((line_Break.f k x4 x6 0).bind fun bt245 => ((line_Break.f k x4 x6 (wrap64 (x5 + (wrap64 (x6 * (wrap64 ((x4.length : Int) - 1))))))).bind fun bt249 => ((line_Length.f k x4 x6).bind fun bt253 => ((arraslaw19_num.f bt245.2).bind fun t255 => (if t255 = 0 then ((arraslaw19_num.f bt249.2).bind fun t256 => (if t256 = 0 then ((arraslaw19_num.f bt253.2).bind fun t257 => (if t257 = 0 then (if (bt245.1.length : Int) = (x4.length : Int) then (if (bt249.1.length : Int) = 1 then (if 0 < (bt249.1.length : Int) then (if (rd bt249.1 0) = (x4.length : Int) then (arraslaw19_LineOnes.j4 k x0 x3 x4 (wrap64 (x5 + (wrap64 (x6 * (wrap64 ((x4.length : Int) - 1)))))) x6 (bt253.1 != (wrap64 (x5 + (wrap64 (x6 * (wrap64 ((x4.length : Int) - 1)))))))) else (arraslaw19_LineOnes.j4 k x0 x3 x4 (wrap64 (x5 + (wrap64 (x6 * (wrap64 ((x4.length : Int) - 1)))))) x6 true)) else (none)) else (arraslaw19_LineOnes.j4 k x0 x3 x4 (wrap64 (x5 + (wrap64 (x6 * (wrap64 ((x4.length : Int) - 1)))))) x6 true)) else (arraslaw19_LineOnes.j4 k x0 x3 x4 (wrap64 (x5 + (wrap64 (x6 * (wrap64 ((x4.length : Int) - 1)))))) x6 true)) else (arraslaw19_LineOnes.j4 k x0 x3 x4 (wrap64 (x5 + (wrap64 (x6 * (wrap64 ((x4.length : Int) - 1)))))) x6 true))) else (arraslaw19_LineOnes.j4 k x0 x3 x4 (wrap64 (x5 + (wrap64 (x6 * (wrap64 ((x4.length : Int) - 1)))))) x6 true))) else (arraslaw19_LineOnes.j4 k x0 x3 x4 (wrap64 (x5 + (wrap64 (x6 * (wrap64 ((x4.length : Int) - 1)))))) x6 true))))))
def arraslaw19_LineOnes.j4 : Nat → List (S25) → Int → List Int → Int → Int → Bool → Option (Bool)
  | 0, _, _, _, _, _, _ => none
  | k + 1, x0, x3, x4, x5, x6, x131 => if x131 = true then (some false) else ((line_Break.f k x4 x6 (wrap64 (x5 - 1))).bind fun bt259 => ((arraslaw19_num.f bt259.2).bind fun t263 => (if t263 = 0 then (if (x4.length : Int) > 1 then (if (bt259.1.length : Int) = 2 then (if (x4.length : Int) = 1 then (if (bt259.1.length : Int) = 1 then (arraslaw19_LineOnes.l0 k x0 (wrap64 (x3 + 1))) else (some false)) else (arraslaw19_LineOnes.l0 k x0 (wrap64 (x3 + 1)))) else (some false)) else (if (x4.length : Int) = 1 then (if (bt259.1.length : Int) = 1 then (arraslaw19_LineOnes.l0 k x0 (wrap64 (x3 + 1))) else (some false)) else (arraslaw19_LineOnes.l0 k x0 (wrap64 (x3 + 1))))) else (some false))))
def arraslaw19_LineOnes.l1 : Nat → List (S25) → Int → List Int → Int → Int → Int → Option (Bool)
  | 0, _, _, _, _, _, _ => none
  | k + 1, x0, x3, x4, x5, x6, x7 => if 0 ≤ x3 then (if x3 < (x0.length : Int) then (if x7 < (((rd_T25 x0 x3).f0).length : Int) then (if x7 < 64 then (if 0 ≤ x7 then ((arraslaw0_Within.f (rd ((rd_T25 x0 x3).f0) x7) 1000).bind fun t240 => (if x4.length < 17592186044416 then ((some (x4 ++ [wrap64 (1 + t240)] : List Int)).bind fun y241 => (if x7 < (y241.length : Int) then (arraslaw19_LineOnes.l1 k x0 x3 y241 (wrap64 (x5 + (rd y241 x7))) x6 (wrap64 (x7 + 1))) else (none))) else (none))) else (none)) else (arraslaw19_LineOnes.j3 k x0 x3 x4 x5 x6)) else (arraslaw19_LineOnes.j3 k x0 x3 x4 x5 x6)) else (none)) else (none)
end
def arraslaw19_LineOnes.f (k : Nat) (l0 : List (S25)) : Option (Bool) := arraslaw19_LineOnes.l0 k l0 0
theorem arraslaw19_LineOnes.mono_l : ∀ k, (∀ y0 y1, LeO (arraslaw19_LineOnes.l0 k y0 y1) (arraslaw19_LineOnes.l0 (k + 1) y0 y1)) ∧ (∀ y0 y1 y2, LeO (arraslaw19_LineOnes.j1 k y0 y1 y2) (arraslaw19_LineOnes.j1 (k + 1) y0 y1 y2)) ∧ (∀ y0 y1 y2 y3 y4, LeO (arraslaw19_LineOnes.j3 k y0 y1 y2 y3 y4) (arraslaw19_LineOnes.j3 (k + 1) y0 y1 y2 y3 y4)) ∧ (∀ y0 y1 y2 y3 y4 y5, LeO (arraslaw19_LineOnes.j4 k y0 y1 y2 y3 y4 y5) (arraslaw19_LineOnes.j4 (k + 1) y0 y1 y2 y3 y4 y5)) ∧ (∀ y0 y1 y2 y3 y4 y5, LeO (arraslaw19_LineOnes.l1 k y0 y1 y2 y3 y4 y5) (arraslaw19_LineOnes.l1 (k + 1) y0 y1 y2 y3 y4 y5))
  | 0 => ⟨fun _ _ r h => by simp [arraslaw19_LineOnes.l0] at h, fun _ _ _ r h => by simp [arraslaw19_LineOnes.j1] at h, fun _ _ _ _ _ r h => by simp [arraslaw19_LineOnes.j3] at h, fun _ _ _ _ _ _ r h => by simp [arraslaw19_LineOnes.j4] at h, fun _ _ _ _ _ _ r h => by simp [arraslaw19_LineOnes.l1] at h⟩
  | k + 1 => by
    obtain ⟨ih0, ih1, ih2, ih3, ih4⟩ := arraslaw19_LineOnes.mono_l k
    refine ⟨?_, ?_, ?_, ?_, ?_⟩
    · intro y0 y1
      unfold arraslaw19_LineOnes.l0
      repeat' first
      | (with_reducible exact ih0 _ _)
      | (with_reducible exact ih1 _ _ _)
      | (with_reducible exact ih2 _ _ _ _ _)
      | (with_reducible exact ih3 _ _ _ _ _ _)
      | (with_reducible exact ih4 _ _ _ _ _ _)
      | (with_reducible exact arraslaw19_wakes.mono _)
      | (with_reducible exact line_Break.mono _ _ _ _)
      | (with_reducible exact line_Length.mono _ _ _)
      | (with_reducible exact LeO.refl _)
      | (with_reducible exact LeO.none _)
      | (with_reducible refine LeO.ite ?_ ?_)
      | (with_reducible refine LeO.bind ?_ (fun _ => ?_))
      | exact ih0 _ _
      | exact ih1 _ _ _
      | exact ih2 _ _ _ _ _
      | exact ih3 _ _ _ _ _ _
      | exact ih4 _ _ _ _ _ _
      | exact arraslaw19_wakes.mono _
      | exact line_Break.mono _ _ _ _
      | exact line_Length.mono _ _ _
      | exact LeO.none _
      | refine LeO.ite ?_ ?_
      | refine LeO.bind ?_ (fun _ => ?_)
    · intro y0 y1 y2
      unfold arraslaw19_LineOnes.j1
      repeat' first
      | (with_reducible exact ih0 _ _)
      | (with_reducible exact ih1 _ _ _)
      | (with_reducible exact ih2 _ _ _ _ _)
      | (with_reducible exact ih3 _ _ _ _ _ _)
      | (with_reducible exact ih4 _ _ _ _ _ _)
      | (with_reducible exact arraslaw19_wakes.mono _)
      | (with_reducible exact line_Break.mono _ _ _ _)
      | (with_reducible exact line_Length.mono _ _ _)
      | (with_reducible exact LeO.refl _)
      | (with_reducible exact LeO.none _)
      | (with_reducible refine LeO.ite ?_ ?_)
      | (with_reducible refine LeO.bind ?_ (fun _ => ?_))
      | exact ih0 _ _
      | exact ih1 _ _ _
      | exact ih2 _ _ _ _ _
      | exact ih3 _ _ _ _ _ _
      | exact ih4 _ _ _ _ _ _
      | exact arraslaw19_wakes.mono _
      | exact line_Break.mono _ _ _ _
      | exact line_Length.mono _ _ _
      | exact LeO.none _
      | refine LeO.ite ?_ ?_
      | refine LeO.bind ?_ (fun _ => ?_)
    · intro y0 y1 y2 y3 y4
      unfold arraslaw19_LineOnes.j3
      repeat' first
      | (with_reducible exact ih0 _ _)
      | (with_reducible exact ih1 _ _ _)
      | (with_reducible exact ih2 _ _ _ _ _)
      | (with_reducible exact ih3 _ _ _ _ _ _)
      | (with_reducible exact ih4 _ _ _ _ _ _)
      | (with_reducible exact arraslaw19_wakes.mono _)
      | (with_reducible exact line_Break.mono _ _ _ _)
      | (with_reducible exact line_Length.mono _ _ _)
      | (with_reducible exact LeO.refl _)
      | (with_reducible exact LeO.none _)
      | (with_reducible refine LeO.ite ?_ ?_)
      | (with_reducible refine LeO.bind ?_ (fun _ => ?_))
      | exact ih0 _ _
      | exact ih1 _ _ _
      | exact ih2 _ _ _ _ _
      | exact ih3 _ _ _ _ _ _
      | exact ih4 _ _ _ _ _ _
      | exact arraslaw19_wakes.mono _
      | exact line_Break.mono _ _ _ _
      | exact line_Length.mono _ _ _
      | exact LeO.none _
      | refine LeO.ite ?_ ?_
      | refine LeO.bind ?_ (fun _ => ?_)
    · intro y0 y1 y2 y3 y4 y5
      unfold arraslaw19_LineOnes.j4
      repeat' first
      | (with_reducible exact ih0 _ _)
      | (with_reducible exact ih1 _ _ _)
      | (with_reducible exact ih2 _ _ _ _ _)
      | (with_reducible exact ih3 _ _ _ _ _ _)
      | (with_reducible exact ih4 _ _ _ _ _ _)
      | (with_reducible exact arraslaw19_wakes.mono _)
      | (with_reducible exact line_Break.mono _ _ _ _)
      | (with_reducible exact line_Length.mono _ _ _)
      | (with_reducible exact LeO.refl _)
      | (with_reducible exact LeO.none _)
      | (with_reducible refine LeO.ite ?_ ?_)
      | (with_reducible refine LeO.bind ?_ (fun _ => ?_))
      | exact ih0 _ _
      | exact ih1 _ _ _
      | exact ih2 _ _ _ _ _
      | exact ih3 _ _ _ _ _ _
      | exact ih4 _ _ _ _ _ _
      | exact arraslaw19_wakes.mono _
      | exact line_Break.mono _ _ _ _
      | exact line_Length.mono _ _ _
      | exact LeO.none _
      | refine LeO.ite ?_ ?_
      | refine LeO.bind ?_ (fun _ => ?_)
    · intro y0 y1 y2 y3 y4 y5
      unfold arraslaw19_LineOnes.l1
      repeat' first
      | (with_reducible exact ih0 _ _)
      | (with_reducible exact ih1 _ _ _)
      | (with_reducible exact ih2 _ _ _ _ _)
      | (with_reducible exact ih3 _ _ _ _ _ _)
      | (with_reducible exact ih4 _ _ _ _ _ _)
      | (with_reducible exact arraslaw19_wakes.mono _)
      | (with_reducible exact line_Break.mono _ _ _ _)
      | (with_reducible exact line_Length.mono _ _ _)
      | (with_reducible exact LeO.refl _)
      | (with_reducible exact LeO.none _)
      | (with_reducible refine LeO.ite ?_ ?_)
      | (with_reducible refine LeO.bind ?_ (fun _ => ?_))
      | exact ih0 _ _
      | exact ih1 _ _ _
      | exact ih2 _ _ _ _ _
      | exact ih3 _ _ _ _ _ _
      | exact ih4 _ _ _ _ _ _
      | exact arraslaw19_wakes.mono _
      | exact line_Break.mono _ _ _ _
      | exact line_Length.mono _ _ _
      | exact LeO.none _
      | refine LeO.ite ?_ ?_
      | refine LeO.bind ?_ (fun _ => ?_)
theorem arraslaw19_LineOnes.mono : ∀ a0 k, LeO (arraslaw19_LineOnes.f k a0) (arraslaw19_LineOnes.f (k + 1) a0) := by
  intro a0 k
  obtain ⟨ih0, ih1, ih2, ih3, ih4⟩ := arraslaw19_LineOnes.mono_l k
  unfold arraslaw19_LineOnes.f
  repeat' first
      | (with_reducible exact ih0 _ _)
      | (with_reducible exact ih1 _ _ _)
      | (with_reducible exact ih2 _ _ _ _ _)
      | (with_reducible exact ih3 _ _ _ _ _ _)
      | (with_reducible exact ih4 _ _ _ _ _ _)
      | (with_reducible exact arraslaw19_wakes.mono _)
      | (with_reducible exact line_Break.mono _ _ _ _)
      | (with_reducible exact line_Length.mono _ _ _)
      | (with_reducible exact LeO.refl _)
      | (with_reducible exact LeO.none _)
      | (with_reducible refine LeO.ite ?_ ?_)
      | (with_reducible refine LeO.bind ?_ (fun _ => ?_))
      | exact ih0 _ _
      | exact ih1 _ _ _
      | exact ih2 _ _ _ _ _
      | exact ih3 _ _ _ _ _ _
      | exact ih4 _ _ _ _ _ _
      | exact arraslaw19_wakes.mono _
      | exact line_Break.mono _ _ _ _
      | exact line_Length.mono _ _ _
      | exact LeO.none _
      | refine LeO.ite ?_ ?_
      | refine LeO.bind ?_ (fun _ => ?_)
set_option maxHeartbeats 8000000 in
set_option maxRecDepth 100000 in
theorem arraslaw19_LineOnes.calls (k : Nat) (A0 : Option Addr) (c0 : Nat) (l0 : List (S25)) (r : Bool) (w : World) (hr0 : Kd.C k25 w A0 l0.length l0) (hc0 : l0.length ≤ c0) (h : arraslaw19_LineOnes.f k l0 = some r) :
    Calls Try.prog 5 #[.slice A0 l0.length c0] w fun e w' => e = .returned (.bool r) ∧ Below w.heap.size w w' := by
  have HR0 := Aside0.mk hr0
  have HC0 := Aside0.mk hc0
  clear hr0 hc0
  have HB := Aside0.mk (Below.refl w.heap.size w)
  have H : (arraslaw19_LineOnes.l0 k l0 0) = some r := h
  clear h
  have H' := Aside0.mk H
  clear H
  go_enter Try.func5, Try.ntmps5
  go_wp2
  go_loopg [3] k (fun kq v3 w' => ∃ (x3_1 : Int), v3 = .int .i64 x3_1 ∧ Aside0 (arraslaw19_LineOnes.l0 kq l0 x3_1 = some r) ∧ Aside0 (kq ≤ k) ∧ Aside0 (Below w.heap.size w w'))
  case atStart => exact ⟨(0), (by first | rfl | (simp; done) | (simp [*]; done)), H', ⟨Nat.le_refl _⟩, ⟨by repeat (first | (with_reducible first | exact HB.out | apply below_alloc | apply pw_below_drewN | apply below_drew1) | exact HB.out)⟩⟩
  case round =>
    clear H'
    obtain ⟨x3_1, rfl, HA, HK1, HB⟩ := hrel
    cases gk with
    | zero => exact absurd HA.out (by simp [arraslaw19_LineOnes.l0])
    | succ k1 =>
      have H := HA.out
      clear HA
      simp only [arraslaw19_LineOnes.l0] at H
      have HC2 := Aside0.mk H
      clear H
      go_upto_region 2 with (fail)
      go_cut [23] (fun v23 wc => ∃ (kq : Nat) (x23_1 : Bool), v23 = .bool x23_1 ∧ Aside0 (arraslaw19_LineOnes.j1 kq l0 x3_1 x23_1 = some r) ∧ Aside0 (kq ≤ k1) ∧ Aside0 (Below w.heap.size w wc))
      case first =>
        have H := HC2.out
        clear HC2
        by_cases c3 : x3_1 < (l0.length : Int)
        · rw [if_pos c3] at H
          have c3b0 : decide (x3_1 < (l0.length : Int)) = true := decide_eq_true c3
          clear c3
          (first | rw [c3b0] | (simp only [i64_w, i32_w]; rw [c3b0]) | skip)
          have H' := Aside0.mk H
          clear H
          go_wp2
          go_meet
          case rel => exact ⟨_, (decide (x3_1 < 12)), (by first | rfl | (simp; done) | (simp [*]; done)), H', ⟨by have := HK1.out; first | omega | exact Nat.le_refl _⟩, ⟨by repeat (first | (with_reducible first | exact HB.out | apply below_alloc | apply pw_below_drewN | apply below_drew1) | exact HB.out)⟩⟩
        · rw [if_neg c3] at H
          have c3b0 : decide (x3_1 < (l0.length : Int)) = false := decide_eq_false c3
          clear c3
          (first | rw [c3b0] | (simp only [i64_w, i32_w]; rw [c3b0]) | skip)
          have H' := Aside0.mk H
          clear H
          go_wp2
          go_meet
          case rel => exact ⟨_, (false), (by first | rfl | (simp; done) | (simp [*]; done)), H', ⟨by have := HK1.out; first | omega | exact Nat.le_refl _⟩, ⟨by repeat (first | (with_reducible first | exact HB.out | apply below_alloc | apply pw_below_drewN | apply below_drew1) | exact HB.out)⟩⟩
      case rest =>
        clear HC2
        try clear p2
        try clear c3
        try clear c3b0
        obtain ⟨kq, x23_1, rfl, HA, HJ1, HB⟩ := hcut
        cases kq with
        | zero => exact absurd HA.out (by simp [arraslaw19_LineOnes.j1])
        | succ kj1 =>
          have H := HA.out
          clear HA
          simp only [arraslaw19_LineOnes.j1] at H
          by_cases c4 : x23_1 = true
          · subst c4
            have H1 : (if 0 ≤ x3_1 then (if x3_1 < (l0.length : Int) then ((arraslaw0_Within.f ((rd_T25 l0 x3_1).f1) 100).bind fun t236 => (arraslaw19_LineOnes.l1 kj1 l0 x3_1 ([] : List Int) 0 t236 0)) else (none)) else (none)) = some r := by rw [if_pos rfl] at H; exact H
            clear H
            have H := H1
            clear H1
            by_cases c5 : 0 ≤ x3_1
            · rw [if_pos c5] at H
              have c5b0 : decide (0 ≤ x3_1) = true := decide_eq_true c5
              clear c5
              by_cases c6 : x3_1 < (l0.length : Int)
              · rw [if_pos c6] at H
                have c6b0 : decide (x3_1 < (l0.length : Int)) = true := decide_eq_true c6
                clear c6
                replace H := Option.bind_eq_some_iff.mp H
                obtain ⟨t236, A70, H⟩ := H
                replace H : (arraslaw19_LineOnes.l1 kj1 l0 x3_1 ([] : List Int) 0 t236 0) = some r := H
                have A7 := Aside0.mk A70
                clear A70
                have HC8 := Aside0.mk H
                clear H
                have p235 : 0 ≤ (x3_1 : Int) := of_decide_eq_true (by first | (with_reducible assumption) | assumption)
                have q235 : x3_1 < (l0.length : Int) := of_decide_eq_true (by first | (with_reducible assumption) | assumption)
                obtain ⟨ad235, A235_0, c235_0, e235, hx235_0, hx235_1, hx235_2, hl235_0, hi235_0⟩ := at_T25 HR0.out x3_1 p235 q235
                cases e235
                replace hx235_0 := (HB.out.cell (World.block_lt_of_cell? w _ hx235_0)).trans hx235_0
                replace hx235_1 := (HB.out.cell (World.block_lt_of_cell? w _ hx235_1)).trans hx235_1
                replace hx235_2 := (HB.out.cell (World.block_lt_of_cell? w _ hx235_2)).trans hx235_2
                have HR235_0 := Aside0.mk hi235_0
                have HC235_0 := Aside0.mk hl235_0
                clear hi235_0 hl235_0
                replace p235 := eq_true p235
                replace q235 := eq_true q235
                go_upto_block 2 with (first | ((with_reducible refine gate_callee (f := 22) rfl ?_); refine goesL_ (some 31) rfl rfl Try.func22 (by kernel_rfl) rfl #[.int .i64 ((rd_T25 l0 x3_1).f1), .int .i64 100] rfl (by (try simp only [List.map_toArray, List.map_cons, List.map_nil]); first | done | rfl | (simp only [List.length_drop, List.length_take]; rfl)) ?_; (with_reducible refine (arraslaw0_Within.calls ((rd_T25 l0 x3_1).f1) 100 t236 _ A7.out).mono ?_); rintro e w' ⟨rfl, ⟨nd, rfl⟩⟩; refine ⟨_, rfl, ?_⟩))
                (try simp only [Act.put, List.setIfInBounds_toArray, List.set_cons_zero, List.set_cons_succ])
                go_cut [4, 5] (fun v4 v5 wc => ∃ (kq : Nat) (x4_7 : List Int) (x5_7 : Int), v5 = .int .i64 x5_7 ∧ Aside0 (arraslaw19_LineOnes.j3 kq l0 x3_1 x4_7 x5_7 t236 = some r) ∧ Aside0 (kq ≤ kj1) ∧ Aside0 (Kd.R (Kd.int .i64) 3 wc w.heap.size (fun _ => True) v4 x4_7) ∧ Aside0 (Below w.heap.size w wc))
                case first =>
                  have H := HC8.out
                  clear HC8
                  have H' := Aside0.mk H
                  clear H
                  go_wp2
                  go_loopg [4, 5, 7] kj1 (fun kq v4 v5 v7 w' => ∃ (x4_3 : List Int) (x5_3 : Int) (x7_3 : Int), v5 = .int .i64 x5_3 ∧ v7 = .int .i64 x7_3 ∧ Aside0 (arraslaw19_LineOnes.l1 kq l0 x3_1 x4_3 x5_3 t236 x7_3 = some r) ∧ Aside0 (kq ≤ kj1) ∧ Aside0 (Kd.R (Kd.int .i64) 3 w' w.heap.size (fun _ => True) v4 x4_3) ∧ Aside0 (Below w.heap.size w w'))
                  case atStart => exact ⟨(([] : List Int)), (0), (0), (by first | rfl | (simp; done) | (simp [*]; done)), (by first | rfl | (simp; done) | (simp [*]; done)), H', ⟨Nat.le_refl _⟩, ⟨by first | exact Kd.R_nil _ _ _ _ _ | exact Kd.N_nil _ _ _ _ _ | exact Kd.V_nil _ _ _ _ _ | exact Kd.Q_nil _ _ _ _ _ | exact Kd.S_nil _ _ _ _ _⟩, ⟨by repeat (first | (with_reducible first | exact HB.out | apply below_alloc | apply pw_below_drewN | apply below_drew1) | exact HB.out)⟩⟩
                  case round =>
                    clear H'
                    try clear c2
                    try clear p2
                    try clear q2
                    try clear hx2
                    try clear c3
                    try clear c3b0
                    try clear c4
                    try clear c5
                    try clear c5b0
                    try clear c6
                    try clear c6b0
                    try clear hx235_0
                    try clear hx235_1
                    try clear hx235_2
                    try clear p2
                    try clear p235
                    try clear q235
                    obtain ⟨x4_3, x5_3, x7_3, rfl, rfl, HA, HK3, HO_4, HB⟩ := hrel
                    cases gk with
                    | zero => exact absurd HA.out (by simp [arraslaw19_LineOnes.l1])
                    | succ k3 =>
                      have H := HA.out
                      clear HA
                      simp only [arraslaw19_LineOnes.l1] at H
                      by_cases c9 : 0 ≤ x3_1
                      · rw [if_pos c9] at H
                        have c9b0 : decide (0 ≤ x3_1) = true := decide_eq_true c9
                        clear c9
                        (first | rw [c9b0] | (simp only [i64_w, i32_w]; rw [c9b0]) | skip)
                        by_cases c10 : x3_1 < (l0.length : Int)
                        · rw [if_pos c10] at H
                          have c10b0 : decide (x3_1 < (l0.length : Int)) = true := decide_eq_true c10
                          clear c10
                          by_cases c11 : x7_3 < (((rd_T25 l0 x3_1).f0).length : Int)
                          · rw [if_pos c11] at H
                            have c11b0 : decide (x7_3 < (((rd_T25 l0 x3_1).f0).length : Int)) = true := decide_eq_true c11
                            clear c11
                            by_cases c12 : x7_3 < 64
                            · rw [if_pos c12] at H
                              have c12b0 : decide (x7_3 < 64) = true := decide_eq_true c12
                              clear c12
                              by_cases c13 : 0 ≤ x7_3
                              · rw [if_pos c13] at H
                                have c13b0 : decide (0 ≤ x7_3) = true := decide_eq_true c13
                                clear c13
                                replace H := Option.bind_eq_some_iff.mp H
                                obtain ⟨t240, A140, H⟩ := H
                                replace H : (if x4_3.length < 17592186044416 then ((some (x4_3 ++ [wrap64 (1 + t240)] : List Int)).bind fun y241 => (if x7_3 < (y241.length : Int) then (arraslaw19_LineOnes.l1 k3 l0 x3_1 y241 (wrap64 (x5_3 + (rd y241 x7_3))) t236 (wrap64 (x7_3 + 1))) else (none))) else (none)) = some r := H
                                have A14 := Aside0.mk A140
                                clear A140
                                by_cases c15 : x4_3.length < 17592186044416
                                · rw [if_pos c15] at H
                                  have LMc15 := Aside0.mk c15
                                  clear c15
                                  obtain ⟨y241, hy241⟩ : ∃ y_ : List Int, y_ = (x4_3 ++ [wrap64 (1 + t240)]) := ⟨_, rfl⟩
                                  replace H : (if x7_3 < (y241.length : Int) then (arraslaw19_LineOnes.l1 k3 l0 x3_1 y241 (wrap64 (x5_3 + (rd y241 x7_3))) t236 (wrap64 (x7_3 + 1))) else (none)) = some r := by first | (rw [hy241]; with_reducible exact H) | (have H2_ := (Option.bind_some _ _).symm.trans H; rw [hy241]; with_reducible exact H2_) | (have H2_ := (Option.bind_some _ _).symm.trans H; with_reducible exact H2_) | with_reducible exact H | (rw [hy241]; exact H) | exact H
                                  have Ny241 := Aside0.mk hy241
                                  clear hy241
                                  by_cases c16 : x7_3 < (y241.length : Int)
                                  · rw [if_pos c16] at H
                                    have c16b0 : decide (x7_3 < (y241.length : Int)) = true := decide_eq_true c16
                                    clear c16
                                    have H' := Aside0.mk H
                                    clear H
                                    have p237 : 0 ≤ (x3_1 : Int) := of_decide_eq_true (by first | (with_reducible assumption) | assumption)
                                    have q237 : x3_1 < (l0.length : Int) := of_decide_eq_true (by first | (with_reducible assumption) | assumption)
                                    obtain ⟨ad237, A237_0, c237_0, e237, hx237_0, hx237_1, hx237_2, hl237_0, hi237_0⟩ := at_T25 HR0.out x3_1 p237 q237
                                    obtain rfl : ad235 = ad237 := (by injection e237)
                                    replace hx237_0 := (HB.out.cell (World.block_lt_of_cell? w _ hx237_0)).trans hx237_0
                                    replace hx237_1 := (HB.out.cell (World.block_lt_of_cell? w _ hx237_1)).trans hx237_1
                                    replace hx237_2 := (HB.out.cell (World.block_lt_of_cell? w _ hx237_2)).trans hx237_2
                                    have HR237_0 := Aside0.mk hi237_0
                                    have HC237_0 := Aside0.mk hl237_0
                                    clear hi237_0 hl237_0
                                    replace p237 := eq_true p237
                                    replace q237 := eq_true q237
                                    have p238 : 0 ≤ (x3_1 : Int) := of_decide_eq_true (by first | (with_reducible assumption) | assumption)
                                    have q238 : x3_1 < (l0.length : Int) := of_decide_eq_true (by first | (with_reducible assumption) | assumption)
                                    obtain ⟨ad238, A238_0, c238_0, e238, hx238_0, hx238_1, hx238_2, hl238_0, hi238_0⟩ := at_T25 HR0.out x3_1 p238 q238
                                    obtain rfl : ad235 = ad238 := (by injection e238)
                                    replace hx238_0 := (HB.out.cell (World.block_lt_of_cell? w _ hx238_0)).trans hx238_0
                                    replace hx238_1 := (HB.out.cell (World.block_lt_of_cell? w _ hx238_1)).trans hx238_1
                                    replace hx238_2 := (HB.out.cell (World.block_lt_of_cell? w _ hx238_2)).trans hx238_2
                                    have HR238_0 := Aside0.mk hi238_0
                                    have HC238_0 := Aside0.mk hl238_0
                                    clear hi238_0 hl238_0
                                    replace p238 := eq_true p238
                                    replace q238 := eq_true q238
                                    have ea_ := Option.some.inj (hx237_0.symm.trans hx238_0)
                                    injection ea_ with ea_ en_ ec_
                                    subst ea_
                                    subst ec_
                                    clear en_
                                    have p239 : 0 ≤ (x7_3 : Int) := of_decide_eq_true (by first | (with_reducible assumption) | assumption)
                                    have q239 : x7_3 < (((rd_T25 l0 x3_1).f0).length : Int) := of_decide_eq_true (by first | (with_reducible assumption) | assumption)
                                    obtain ⟨ad239, e239, hx239_0⟩ := Kd.at_int HR238_0.out x7_3 p239 q239
                                    cases e239
                                    replace hx239_0 := (HB.out.cell (World.block_lt_of_cell? w _ hx239_0)).trans hx239_0
                                    replace p239 := eq_true p239
                                    replace q239 := eq_true q239
                                    go_wp2_with (first | ((with_reducible refine gate_callee (f := 22) rfl ?_); refine goesL_ (some 55) rfl rfl Try.func22 (by kernel_rfl) rfl #[.int .i64 (rd ((rd_T25 l0 x3_1).f0) x7_3), .int .i64 1000] rfl (by (try simp only [List.map_toArray, List.map_cons, List.map_nil]); first | done | rfl | (simp only [List.length_drop, List.length_take]; rfl)) ?_; (with_reducible refine (arraslaw0_Within.calls (rd ((rd_T25 l0 x3_1).f0) x7_3) 1000 t240 _ A14.out).mono ?_); rintro e w' ⟨rfl, ⟨nd, rfl⟩⟩; refine ⟨_, rfl, ?_⟩) | ((with_reducible refine gate_builtin (b := .append) (xs := #[.tmp 46, .tmp 57]) rfl ?_); (try (refine gate_guard (by rfl) ?_; dsimp only)); at_builtin; refine Kd.R_append (Kd.int .i64) (w0 := w) w.heap.size rfl (.tmp 46) (.tmp 57) 23 3 (.int .i64 0) 8 rfl Try.underlying23 info3 rfl (by decide) (by omega) u4 x4_3 (wrap64 (1 + t240)) [.int .i64 (wrap64 (1 + t240))] (fun _ => True) (fun _ => False) rfl rfl ?aP (fun _ hk => hk.elim) ?aF ?aO ?aB ?aS ?aL ?_; (case aP => exact rfl); (case aB => exact (by repeat (first | (with_reducible first | exact HB.out | apply below_alloc | apply pw_below_drewN | apply below_drew1) | exact HB.out))); (case aF => exact (fun _ _ => trivial)); (case aO => exact (by (with_reducible repeat (first | apply Kd.R_alloc | apply Kd.R_drewN | apply Kd.R_drew)); exact HO_4.out)); (case aS => exact (below_size (by repeat (first | (with_reducible first | exact HB.out | apply below_alloc | apply pw_below_drewN | apply below_drew1) | exact HB.out)))); (case aL => have := LMc15.out; omega); intro v242 w17 ho hb hg hat; rw [← Ny241.out] at ho; have n0_ := Aside0.mk (hb); have n1_ := Aside0.mk (ho); clear HB; clear HO_4; have HB := n0_; have HO243 := n1_; clear n0_ n1_; clear ho hb hg hat; obtain ⟨Ao18, co18, eo18⟩ := Kd.R_slice HO243.out; subst eo18; have p244 : 0 ≤ (x7_3 : Int) := of_decide_eq_true (by first | (with_reducible assumption) | assumption); have q244 : x7_3 < (y241.length : Int) := of_decide_eq_true (by first | (with_reducible assumption) | assumption); obtain ⟨ad244, e244, hx244_0⟩ := Kd.at_int (Kd.R_reads' HO243.out).2.2 x7_3 p244 q244; cases e244; replace p244 := eq_true p244; replace q244 := eq_true q244))
                                    go_roundg k3
                                    case measure => have := HK1.out; have := HJ1.out; have := HK3.out; omega
                                    case rel => exact ⟨(y241), (wrap64 (x5_3 + (rd y241 x7_3))), (wrap64 (x7_3 + 1)), (by first | rfl | (simp; done) | (simp [*]; done)), (by first | rfl | (simp; done) | (simp [*]; done)), H', ⟨by have := HK1.out; have := HJ1.out; have := HK3.out; omega⟩, ⟨by (with_reducible repeat (first | apply Kd.R_alloc | apply Kd.R_drewN | apply Kd.R_drew)); exact HO243.out⟩, ⟨by repeat (first | (with_reducible first | exact HB.out | apply below_alloc | apply pw_below_drewN | apply below_drew1) | exact HB.out)⟩⟩
                                  · rw [if_neg c16] at H
                                    exact absurd H (by simp)
                                · rw [if_neg c15] at H
                                  exact absurd H (by simp)
                              · rw [if_neg c13] at H
                                exact absurd H (by simp)
                            · rw [if_neg c12] at H
                              have c12b0 : decide (x7_3 < 64) = false := decide_eq_false c12
                              clear c12
                              have H' := Aside0.mk H
                              clear H
                              have p237 : 0 ≤ (x3_1 : Int) := of_decide_eq_true (by first | (with_reducible assumption) | assumption)
                              have q237 : x3_1 < (l0.length : Int) := of_decide_eq_true (by first | (with_reducible assumption) | assumption)
                              obtain ⟨ad237, A237_0, c237_0, e237, hx237_0, hx237_1, hx237_2, hl237_0, hi237_0⟩ := at_T25 HR0.out x3_1 p237 q237
                              obtain rfl : ad235 = ad237 := (by injection e237)
                              replace hx237_0 := (HB.out.cell (World.block_lt_of_cell? w _ hx237_0)).trans hx237_0
                              replace hx237_1 := (HB.out.cell (World.block_lt_of_cell? w _ hx237_1)).trans hx237_1
                              replace hx237_2 := (HB.out.cell (World.block_lt_of_cell? w _ hx237_2)).trans hx237_2
                              have HR237_0 := Aside0.mk hi237_0
                              have HC237_0 := Aside0.mk hl237_0
                              clear hi237_0 hl237_0
                              replace p237 := eq_true p237
                              replace q237 := eq_true q237
                              go_wp2
                              go_meet
                              case rel => exact ⟨_, (x4_3), (x5_3), (by first | rfl | (simp; done) | (simp [*]; done)), H', ⟨by have := HK1.out; have := HJ1.out; have := HK3.out; first | omega | exact Nat.le_refl _⟩, ⟨by (with_reducible repeat (first | apply Kd.R_alloc | apply Kd.R_drewN | apply Kd.R_drew)); exact HO_4.out⟩, ⟨by repeat (first | (with_reducible first | exact HB.out | apply below_alloc | apply pw_below_drewN | apply below_drew1) | exact HB.out)⟩⟩
                          · rw [if_neg c11] at H
                            have c11b0 : decide (x7_3 < (((rd_T25 l0 x3_1).f0).length : Int)) = false := decide_eq_false c11
                            clear c11
                            have H' := Aside0.mk H
                            clear H
                            have p237 : 0 ≤ (x3_1 : Int) := of_decide_eq_true (by first | (with_reducible assumption) | assumption)
                            have q237 : x3_1 < (l0.length : Int) := of_decide_eq_true (by first | (with_reducible assumption) | assumption)
                            obtain ⟨ad237, A237_0, c237_0, e237, hx237_0, hx237_1, hx237_2, hl237_0, hi237_0⟩ := at_T25 HR0.out x3_1 p237 q237
                            obtain rfl : ad235 = ad237 := (by injection e237)
                            replace hx237_0 := (HB.out.cell (World.block_lt_of_cell? w _ hx237_0)).trans hx237_0
                            replace hx237_1 := (HB.out.cell (World.block_lt_of_cell? w _ hx237_1)).trans hx237_1
                            replace hx237_2 := (HB.out.cell (World.block_lt_of_cell? w _ hx237_2)).trans hx237_2
                            have HR237_0 := Aside0.mk hi237_0
                            have HC237_0 := Aside0.mk hl237_0
                            clear hi237_0 hl237_0
                            replace p237 := eq_true p237
                            replace q237 := eq_true q237
                            go_wp2
                            go_meet
                            case rel => exact ⟨_, (x4_3), (x5_3), (by first | rfl | (simp; done) | (simp [*]; done)), H', ⟨by have := HK1.out; have := HJ1.out; have := HK3.out; first | omega | exact Nat.le_refl _⟩, ⟨by (with_reducible repeat (first | apply Kd.R_alloc | apply Kd.R_drewN | apply Kd.R_drew)); exact HO_4.out⟩, ⟨by repeat (first | (with_reducible first | exact HB.out | apply below_alloc | apply pw_below_drewN | apply below_drew1) | exact HB.out)⟩⟩
                        · rw [if_neg c10] at H
                          exact absurd H (by simp)
                      · rw [if_neg c9] at H
                        exact absurd H (by simp)
                case rest =>
                  clear HC8
                  try clear c1
                  try clear c2
                  try clear p2
                  try clear q2
                  try clear hx2
                  try clear c3
                  try clear c3b0
                  try clear c4
                  try clear c5
                  try clear c5b0
                  try clear c6
                  try clear c6b0
                  try clear p6
                  try clear c9
                  try clear c9b0
                  try clear c10
                  try clear c10b0
                  try clear c11
                  try clear c11b0
                  try clear c12
                  try clear c12b0
                  try clear c13
                  try clear c13b0
                  try clear c15
                  try clear c16
                  try clear c16b0
                  try clear hx235_0
                  try clear hx235_1
                  try clear hx235_2
                  try clear hx237_0
                  try clear hx237_1
                  try clear hx237_2
                  try clear hx238_0
                  try clear hx238_1
                  try clear hx238_2
                  try clear hx239_0
                  try clear hx244_0
                  try clear p2
                  try clear p235
                  try clear p237
                  try clear p238
                  try clear p239
                  try clear p244
                  try clear q2
                  try clear q235
                  try clear q237
                  try clear q238
                  try clear q239
                  try clear q244
                  obtain ⟨kq, x4_7, x5_7, rfl, HA, HJ7, HO_4, HB⟩ := hcut
                  cases kq with
                  | zero => exact absurd HA.out (by simp [arraslaw19_LineOnes.j3])
                  | succ kj7 =>
                    have H := HA.out
                    clear HA
                    simp only [arraslaw19_LineOnes.j3] at H
                    by_cases c19 : (x4_7.length : Int) = 0
                    · rw [if_pos c19] at H
                      have c19b0 : ((x4_7.length : Int) == 0) = true := beq_iff_eq.mpr c19
                      have c19b1 : ((x4_7.length : Int) != 0) = false := bne_eq_false_iff_eq.mpr c19
                      clear c19
                      have H' := Aside0.mk H
                      clear H
                      obtain ⟨Ao20, co20, eo20⟩ := Kd.R_slice HO_4.out
                      subst eo20
                      go_wp2
                      go_roundg kj7
                      case measure => have := HK1.out; have := HJ1.out; have := HJ7.out; omega
                      case rel => exact ⟨(wrap64 (x3_1 + 1)), (by first | rfl | (simp; done) | (simp [*]; done)), H', ⟨by have := HK1.out; have := HJ1.out; have := HJ7.out; omega⟩, ⟨by repeat (first | (with_reducible first | exact HB.out | apply below_alloc | apply pw_below_drewN | apply below_drew1) | exact HB.out)⟩⟩
                    · rw [if_neg c19] at H
                      have c19b0 : ((x4_7.length : Int) == 0) = false := beq_eq_false_iff_ne.mpr c19
                      have c19b1 : ((x4_7.length : Int) != 0) = true := bne_iff_ne.mpr c19
                      have c19b2 : ¬ (x4_7 = []) := fun h_ => c19 (by rw [h_]; rfl)
                      replace H := Option.bind_eq_some_iff.mp H
                      obtain ⟨⟨t245, t246⟩, A210, H⟩ := H
                      replace H : ((line_Break.f kj7 x4_7 t236 (wrap64 (x5_7 + (wrap64 (t236 * (wrap64 ((x4_7.length : Int) - 1))))))).bind fun bt249 => ((line_Length.f kj7 x4_7 t236).bind fun bt253 => ((arraslaw19_num.f t246).bind fun t255 => (if t255 = 0 then ((arraslaw19_num.f bt249.2).bind fun t256 => (if t256 = 0 then ((arraslaw19_num.f bt253.2).bind fun t257 => (if t257 = 0 then (if (t245.length : Int) = (x4_7.length : Int) then (if (bt249.1.length : Int) = 1 then (if 0 < (bt249.1.length : Int) then (if (rd bt249.1 0) = (x4_7.length : Int) then (arraslaw19_LineOnes.j4 kj7 l0 x3_1 x4_7 (wrap64 (x5_7 + (wrap64 (t236 * (wrap64 ((x4_7.length : Int) - 1)))))) t236 (bt253.1 != (wrap64 (x5_7 + (wrap64 (t236 * (wrap64 ((x4_7.length : Int) - 1)))))))) else (arraslaw19_LineOnes.j4 kj7 l0 x3_1 x4_7 (wrap64 (x5_7 + (wrap64 (t236 * (wrap64 ((x4_7.length : Int) - 1)))))) t236 true)) else (none)) else (arraslaw19_LineOnes.j4 kj7 l0 x3_1 x4_7 (wrap64 (x5_7 + (wrap64 (t236 * (wrap64 ((x4_7.length : Int) - 1)))))) t236 true)) else (arraslaw19_LineOnes.j4 kj7 l0 x3_1 x4_7 (wrap64 (x5_7 + (wrap64 (t236 * (wrap64 ((x4_7.length : Int) - 1)))))) t236 true)) else (arraslaw19_LineOnes.j4 kj7 l0 x3_1 x4_7 (wrap64 (x5_7 + (wrap64 (t236 * (wrap64 ((x4_7.length : Int) - 1)))))) t236 true))) else (arraslaw19_LineOnes.j4 kj7 l0 x3_1 x4_7 (wrap64 (x5_7 + (wrap64 (t236 * (wrap64 ((x4_7.length : Int) - 1)))))) t236 true))) else (arraslaw19_LineOnes.j4 kj7 l0 x3_1 x4_7 (wrap64 (x5_7 + (wrap64 (t236 * (wrap64 ((x4_7.length : Int) - 1)))))) t236 true))))) = some r := H
                      have A21 := Aside0.mk A210
                      clear A210
                      replace H := Option.bind_eq_some_iff.mp H
                      obtain ⟨⟨t249, t250⟩, A220, H⟩ := H
                      replace H : ((line_Length.f kj7 x4_7 t236).bind fun bt253 => ((arraslaw19_num.f t246).bind fun t255 => (if t255 = 0 then ((arraslaw19_num.f t250).bind fun t256 => (if t256 = 0 then ((arraslaw19_num.f bt253.2).bind fun t257 => (if t257 = 0 then (if (t245.length : Int) = (x4_7.length : Int) then (if (t249.length : Int) = 1 then (if 0 < (t249.length : Int) then (if (rd t249 0) = (x4_7.length : Int) then (arraslaw19_LineOnes.j4 kj7 l0 x3_1 x4_7 (wrap64 (x5_7 + (wrap64 (t236 * (wrap64 ((x4_7.length : Int) - 1)))))) t236 (bt253.1 != (wrap64 (x5_7 + (wrap64 (t236 * (wrap64 ((x4_7.length : Int) - 1)))))))) else (arraslaw19_LineOnes.j4 kj7 l0 x3_1 x4_7 (wrap64 (x5_7 + (wrap64 (t236 * (wrap64 ((x4_7.length : Int) - 1)))))) t236 true)) else (none)) else (arraslaw19_LineOnes.j4 kj7 l0 x3_1 x4_7 (wrap64 (x5_7 + (wrap64 (t236 * (wrap64 ((x4_7.length : Int) - 1)))))) t236 true)) else (arraslaw19_LineOnes.j4 kj7 l0 x3_1 x4_7 (wrap64 (x5_7 + (wrap64 (t236 * (wrap64 ((x4_7.length : Int) - 1)))))) t236 true)) else (arraslaw19_LineOnes.j4 kj7 l0 x3_1 x4_7 (wrap64 (x5_7 + (wrap64 (t236 * (wrap64 ((x4_7.length : Int) - 1)))))) t236 true))) else (arraslaw19_LineOnes.j4 kj7 l0 x3_1 x4_7 (wrap64 (x5_7 + (wrap64 (t236 * (wrap64 ((x4_7.length : Int) - 1)))))) t236 true))) else (arraslaw19_LineOnes.j4 kj7 l0 x3_1 x4_7 (wrap64 (x5_7 + (wrap64 (t236 * (wrap64 ((x4_7.length : Int) - 1)))))) t236 true)))) = some r := H
                      have A22 := Aside0.mk A220
                      clear A220
                      replace H := Option.bind_eq_some_iff.mp H
                      obtain ⟨⟨t253, t254⟩, A230, H⟩ := H
                      replace H : ((arraslaw19_num.f t246).bind fun t255 => (if t255 = 0 then ((arraslaw19_num.f t250).bind fun t256 => (if t256 = 0 then ((arraslaw19_num.f t254).bind fun t257 => (if t257 = 0 then (if (t245.length : Int) = (x4_7.length : Int) then (if (t249.length : Int) = 1 then (if 0 < (t249.length : Int) then (if (rd t249 0) = (x4_7.length : Int) then (arraslaw19_LineOnes.j4 kj7 l0 x3_1 x4_7 (wrap64 (x5_7 + (wrap64 (t236 * (wrap64 ((x4_7.length : Int) - 1)))))) t236 (t253 != (wrap64 (x5_7 + (wrap64 (t236 * (wrap64 ((x4_7.length : Int) - 1)))))))) else (arraslaw19_LineOnes.j4 kj7 l0 x3_1 x4_7 (wrap64 (x5_7 + (wrap64 (t236 * (wrap64 ((x4_7.length : Int) - 1)))))) t236 true)) else (none)) else (arraslaw19_LineOnes.j4 kj7 l0 x3_1 x4_7 (wrap64 (x5_7 + (wrap64 (t236 * (wrap64 ((x4_7.length : Int) - 1)))))) t236 true)) else (arraslaw19_LineOnes.j4 kj7 l0 x3_1 x4_7 (wrap64 (x5_7 + (wrap64 (t236 * (wrap64 ((x4_7.length : Int) - 1)))))) t236 true)) else (arraslaw19_LineOnes.j4 kj7 l0 x3_1 x4_7 (wrap64 (x5_7 + (wrap64 (t236 * (wrap64 ((x4_7.length : Int) - 1)))))) t236 true))) else (arraslaw19_LineOnes.j4 kj7 l0 x3_1 x4_7 (wrap64 (x5_7 + (wrap64 (t236 * (wrap64 ((x4_7.length : Int) - 1)))))) t236 true))) else (arraslaw19_LineOnes.j4 kj7 l0 x3_1 x4_7 (wrap64 (x5_7 + (wrap64 (t236 * (wrap64 ((x4_7.length : Int) - 1)))))) t236 true))) = some r := H
                      have A23 := Aside0.mk A230
                      clear A230
                      have HC24 := Aside0.mk H
                      clear H
                      obtain ⟨Ao25, co25, eo25⟩ := Kd.R_slice HO_4.out
                      subst eo25
                      go_upto_region 17 with (first | ((with_reducible refine gate_callee (f := 12) rfl ?_); refine goesL_ (some 78) rfl rfl Try.func12 (by kernel_rfl) rfl #[.slice Ao25 x4_7.length co25, .int .i64 t236, .int .i64 0] rfl (by (try simp only [List.map_toArray, List.map_cons, List.map_nil]); first | done | rfl | (simp only [List.length_drop, List.length_take]; rfl)) ?_; (with_reducible refine (line_Break.calls kj7 _ _ x4_7 t236 0 t245 t246 _ ?side1 ?side2 A21.out).mono ?_); (case side1 => repeat (first | exact (Kd.R_reads' HO_4.out).2.2 | (with_reducible refine Kd.C_alloc ?_ _) | (with_reducible refine Kd.C_drewN ?_ _) | (with_reducible refine Kd.C_drew ?_))); (case side2 => exact (Kd.R_reads' HO_4.out).2.1); rintro e w26 ⟨v247, rfl, ho0, hb⟩; refine ⟨_, rfl, ?_⟩; have n0_ := Aside0.mk (Kd.R_elder' (by (with_reducible repeat (first | apply Kd.R_alloc | apply Kd.R_drewN | apply Kd.R_drew)); exact HO_4.out) (Kd.R_base ho0) hb); have n1_ := Aside0.mk (Kd.R_lower (Kd.R_new' ho0 (Kd.R_lt (by (with_reducible repeat (first | apply Kd.R_alloc | apply Kd.R_drewN | apply Kd.R_drew)); exact HO_4.out))) (below_size (by repeat (first | (with_reducible first | exact HB.out | apply below_alloc | apply pw_below_drewN | apply below_drew1) | exact HB.out)))); have n2_ := Aside0.mk (below_step (by repeat (first | (with_reducible first | exact HB.out | apply below_alloc | apply pw_below_drewN | apply below_drew1) | exact HB.out)) hb); clear HO_4; clear HB; have HO_4 := n0_; have HO248 := n1_; have HB := n2_; clear n0_ n1_ n2_; (try clear hb); (try clear hb2); (try clear hk); (try clear hi); (try clear ho0)) | ((with_reducible refine gate_callee (f := 12) rfl ?_); refine goesL_ (some 85) rfl rfl Try.func12 (by kernel_rfl) rfl #[.slice Ao25 x4_7.length co25, .int .i64 t236, .int .i64 (wrap64 (x5_7 + (wrap64 (t236 * (wrap64 ((x4_7.length : Int) - 1))))))] rfl (by (try simp only [List.map_toArray, List.map_cons, List.map_nil]); first | done | rfl | (simp only [List.length_drop, List.length_take]; rfl)) ?_; (with_reducible refine (line_Break.calls kj7 _ _ x4_7 t236 (wrap64 (x5_7 + (wrap64 (t236 * (wrap64 ((x4_7.length : Int) - 1)))))) t249 t250 _ ?side1 ?side2 A22.out).mono ?_); (case side1 => repeat (first | exact (Kd.R_reads' HO_4.out).2.2 | (with_reducible refine Kd.C_alloc ?_ _) | (with_reducible refine Kd.C_drewN ?_ _) | (with_reducible refine Kd.C_drew ?_))); (case side2 => exact (Kd.R_reads' HO_4.out).2.1); rintro e w27 ⟨v251, rfl, ho0, hb⟩; refine ⟨_, rfl, ?_⟩; have n0_ := Aside0.mk (Kd.R_elder' (by (with_reducible repeat (first | apply Kd.R_alloc | apply Kd.R_drewN | apply Kd.R_drew)); exact HO_4.out) (Kd.R_base ho0) hb); have n1_ := Aside0.mk (Kd.R_elder' (by (with_reducible repeat (first | apply Kd.R_alloc | apply Kd.R_drewN | apply Kd.R_drew)); exact HO248.out) (Kd.R_base ho0) hb); have n2_ := Aside0.mk (Kd.R_lower (Kd.R_new' (Kd.R_new' ho0 (Kd.R_lt (by (with_reducible repeat (first | apply Kd.R_alloc | apply Kd.R_drewN | apply Kd.R_drew)); exact HO_4.out))) (Kd.R_lt (by (with_reducible repeat (first | apply Kd.R_alloc | apply Kd.R_drewN | apply Kd.R_drew)); exact HO248.out))) (below_size (by repeat (first | (with_reducible first | exact HB.out | apply below_alloc | apply pw_below_drewN | apply below_drew1) | exact HB.out)))); have n3_ := Aside0.mk (below_step (by repeat (first | (with_reducible first | exact HB.out | apply below_alloc | apply pw_below_drewN | apply below_drew1) | exact HB.out)) hb); clear HO_4; clear HO248; clear HB; have HO_4 := n0_; have HO248 := n1_; have HO252 := n2_; have HB := n3_; clear n0_ n1_ n2_ n3_; (try clear hb); (try clear hb2); (try clear hk); (try clear hi); (try clear ho0)) | ((with_reducible refine gate_callee (f := 13) rfl ?_); refine goesL_ (some 91) rfl rfl Try.func13 (by kernel_rfl) rfl #[.slice Ao25 x4_7.length co25, .int .i64 t236] rfl (by (try simp only [List.map_toArray, List.map_cons, List.map_nil]); first | done | rfl | (simp only [List.length_drop, List.length_take]; rfl)) ?_; (with_reducible refine (line_Length.calls kj7 _ _ x4_7 t236 t253 t254 _ ?side1 ?side2 A23.out).mono ?_); (case side1 => repeat (first | exact (Kd.R_reads' HO_4.out).2.2 | (with_reducible refine Kd.C_alloc ?_ _) | (with_reducible refine Kd.C_drewN ?_ _) | (with_reducible refine Kd.C_drew ?_))); (case side2 => exact (Kd.R_reads' HO_4.out).2.1); rintro e w28 ⟨rfl, hb⟩; refine ⟨_, rfl, ?_⟩; have n0_ := Aside0.mk (Kd.R_below (by (with_reducible repeat (first | apply Kd.R_alloc | apply Kd.R_drewN | apply Kd.R_drew)); exact HO_4.out) hb); have n1_ := Aside0.mk (Kd.R_below (by (with_reducible repeat (first | apply Kd.R_alloc | apply Kd.R_drewN | apply Kd.R_drew)); exact HO248.out) hb); have n2_ := Aside0.mk (Kd.R_below (by (with_reducible repeat (first | apply Kd.R_alloc | apply Kd.R_drewN | apply Kd.R_drew)); exact HO252.out) hb); have n3_ := Aside0.mk (below_step (by repeat (first | (with_reducible first | exact HB.out | apply below_alloc | apply pw_below_drewN | apply below_drew1) | exact HB.out)) hb); clear HO_4; clear HO248; clear HO252; clear HB; have HO_4 := n0_; have HO248 := n1_; have HO252 := n2_; have HB := n3_; clear n0_ n1_ n2_ n3_; (try clear hb); (try clear hb2); (try clear hk); (try clear hi)))
                      (try simp only [Act.put, List.setIfInBounds_toArray, List.set_cons_zero, List.set_cons_succ])
                      go_cut [131] (fun v131 wc => ∃ (kq : Nat) (x131_23 : Bool), v131 = .bool x131_23 ∧ Aside0 (arraslaw19_LineOnes.j4 kq l0 x3_1 x4_7 (wrap64 (x5_7 + (wrap64 (t236 * (wrap64 ((x4_7.length : Int) - 1)))))) t236 x131_23 = some r) ∧ Aside0 (kq ≤ kj7) ∧ Aside0 (Kd.R (Kd.int .i64) 3 wc w.heap.size (fun _ => True) (.slice Ao25 x4_7.length co25) x4_7) ∧ Aside0 (Below w.heap.size w wc))
                      case first =>
                        have H := HC24.out
                        clear HC24
                        replace H := Option.bind_eq_some_iff.mp H
                        obtain ⟨t255, A290, H⟩ := H
                        replace H : (if t255 = 0 then ((arraslaw19_num.f t250).bind fun t256 => (if t256 = 0 then ((arraslaw19_num.f t254).bind fun t257 => (if t257 = 0 then (if (t245.length : Int) = (x4_7.length : Int) then (if (t249.length : Int) = 1 then (if 0 < (t249.length : Int) then (if (rd t249 0) = (x4_7.length : Int) then (arraslaw19_LineOnes.j4 kj7 l0 x3_1 x4_7 (wrap64 (x5_7 + (wrap64 (t236 * (wrap64 ((x4_7.length : Int) - 1)))))) t236 (t253 != (wrap64 (x5_7 + (wrap64 (t236 * (wrap64 ((x4_7.length : Int) - 1)))))))) else (arraslaw19_LineOnes.j4 kj7 l0 x3_1 x4_7 (wrap64 (x5_7 + (wrap64 (t236 * (wrap64 ((x4_7.length : Int) - 1)))))) t236 true)) else (none)) else (arraslaw19_LineOnes.j4 kj7 l0 x3_1 x4_7 (wrap64 (x5_7 + (wrap64 (t236 * (wrap64 ((x4_7.length : Int) - 1)))))) t236 true)) else (arraslaw19_LineOnes.j4 kj7 l0 x3_1 x4_7 (wrap64 (x5_7 + (wrap64 (t236 * (wrap64 ((x4_7.length : Int) - 1)))))) t236 true)) else (arraslaw19_LineOnes.j4 kj7 l0 x3_1 x4_7 (wrap64 (x5_7 + (wrap64 (t236 * (wrap64 ((x4_7.length : Int) - 1)))))) t236 true))) else (arraslaw19_LineOnes.j4 kj7 l0 x3_1 x4_7 (wrap64 (x5_7 + (wrap64 (t236 * (wrap64 ((x4_7.length : Int) - 1)))))) t236 true))) else (arraslaw19_LineOnes.j4 kj7 l0 x3_1 x4_7 (wrap64 (x5_7 + (wrap64 (t236 * (wrap64 ((x4_7.length : Int) - 1)))))) t236 true)) = some r := H
                        have A29 := Aside0.mk A290
                        clear A290
                        by_cases c30 : t255 = 0
                        · rw [if_pos c30] at H
                          have c30b0 : (t255 == 0) = true := beq_iff_eq.mpr c30
                          have c30b1 : (t255 != 0) = false := bne_eq_false_iff_eq.mpr c30
                          clear c30
                          (first | rw [c30b0] | (simp only [i64_w, i32_w]; rw [c30b0]) | skip)
                          replace H := Option.bind_eq_some_iff.mp H
                          obtain ⟨t256, A310, H⟩ := H
                          replace H : (if t256 = 0 then ((arraslaw19_num.f t254).bind fun t257 => (if t257 = 0 then (if (t245.length : Int) = (x4_7.length : Int) then (if (t249.length : Int) = 1 then (if 0 < (t249.length : Int) then (if (rd t249 0) = (x4_7.length : Int) then (arraslaw19_LineOnes.j4 kj7 l0 x3_1 x4_7 (wrap64 (x5_7 + (wrap64 (t236 * (wrap64 ((x4_7.length : Int) - 1)))))) t236 (t253 != (wrap64 (x5_7 + (wrap64 (t236 * (wrap64 ((x4_7.length : Int) - 1)))))))) else (arraslaw19_LineOnes.j4 kj7 l0 x3_1 x4_7 (wrap64 (x5_7 + (wrap64 (t236 * (wrap64 ((x4_7.length : Int) - 1)))))) t236 true)) else (none)) else (arraslaw19_LineOnes.j4 kj7 l0 x3_1 x4_7 (wrap64 (x5_7 + (wrap64 (t236 * (wrap64 ((x4_7.length : Int) - 1)))))) t236 true)) else (arraslaw19_LineOnes.j4 kj7 l0 x3_1 x4_7 (wrap64 (x5_7 + (wrap64 (t236 * (wrap64 ((x4_7.length : Int) - 1)))))) t236 true)) else (arraslaw19_LineOnes.j4 kj7 l0 x3_1 x4_7 (wrap64 (x5_7 + (wrap64 (t236 * (wrap64 ((x4_7.length : Int) - 1)))))) t236 true))) else (arraslaw19_LineOnes.j4 kj7 l0 x3_1 x4_7 (wrap64 (x5_7 + (wrap64 (t236 * (wrap64 ((x4_7.length : Int) - 1)))))) t236 true)) = some r := H
                          have A31 := Aside0.mk A310
                          clear A310
                          by_cases c32 : t256 = 0
                          · rw [if_pos c32] at H
                            have c32b0 : (t256 == 0) = true := beq_iff_eq.mpr c32
                            have c32b1 : (t256 != 0) = false := bne_eq_false_iff_eq.mpr c32
                            clear c32
                            replace H := Option.bind_eq_some_iff.mp H
                            obtain ⟨t257, A330, H⟩ := H
                            replace H : (if t257 = 0 then (if (t245.length : Int) = (x4_7.length : Int) then (if (t249.length : Int) = 1 then (if 0 < (t249.length : Int) then (if (rd t249 0) = (x4_7.length : Int) then (arraslaw19_LineOnes.j4 kj7 l0 x3_1 x4_7 (wrap64 (x5_7 + (wrap64 (t236 * (wrap64 ((x4_7.length : Int) - 1)))))) t236 (t253 != (wrap64 (x5_7 + (wrap64 (t236 * (wrap64 ((x4_7.length : Int) - 1)))))))) else (arraslaw19_LineOnes.j4 kj7 l0 x3_1 x4_7 (wrap64 (x5_7 + (wrap64 (t236 * (wrap64 ((x4_7.length : Int) - 1)))))) t236 true)) else (none)) else (arraslaw19_LineOnes.j4 kj7 l0 x3_1 x4_7 (wrap64 (x5_7 + (wrap64 (t236 * (wrap64 ((x4_7.length : Int) - 1)))))) t236 true)) else (arraslaw19_LineOnes.j4 kj7 l0 x3_1 x4_7 (wrap64 (x5_7 + (wrap64 (t236 * (wrap64 ((x4_7.length : Int) - 1)))))) t236 true)) else (arraslaw19_LineOnes.j4 kj7 l0 x3_1 x4_7 (wrap64 (x5_7 + (wrap64 (t236 * (wrap64 ((x4_7.length : Int) - 1)))))) t236 true)) = some r := H
                            have A33 := Aside0.mk A330
                            clear A330
                            by_cases c34 : t257 = 0
                            · rw [if_pos c34] at H
                              have c34b0 : (t257 == 0) = true := beq_iff_eq.mpr c34
                              have c34b1 : (t257 != 0) = false := bne_eq_false_iff_eq.mpr c34
                              clear c34
                              by_cases c35 : (t245.length : Int) = (x4_7.length : Int)
                              · rw [if_pos c35] at H
                                have c35b0 : ((t245.length : Int) == (x4_7.length : Int)) = true := beq_iff_eq.mpr c35
                                have c35b1 : ((t245.length : Int) != (x4_7.length : Int)) = false := bne_eq_false_iff_eq.mpr c35
                                have c35b2 : (t245.length == x4_7.length) = true := by first | simpa using c35 | (simp at c35 ⊢; omega)
                                clear c35
                                by_cases c36 : (t249.length : Int) = 1
                                · rw [if_pos c36] at H
                                  have c36b0 : ((t249.length : Int) == 1) = true := beq_iff_eq.mpr c36
                                  have c36b1 : ((t249.length : Int) != 1) = false := bne_eq_false_iff_eq.mpr c36
                                  clear c36
                                  by_cases c37 : 0 < (t249.length : Int)
                                  · rw [if_pos c37] at H
                                    have c37b0 : decide (0 < (t249.length : Int)) = true := decide_eq_true c37
                                    have c37b1 : decide (0 < t249.length) = true := decide_eq_true (by omega)
                                    clear c37
                                    by_cases c38 : (rd t249 0) = (x4_7.length : Int)
                                    · rw [if_pos c38] at H
                                      have c38b0 : ((rd t249 0) == (x4_7.length : Int)) = true := beq_iff_eq.mpr c38
                                      have c38b1 : ((rd t249 0) != (x4_7.length : Int)) = false := bne_eq_false_iff_eq.mpr c38
                                      clear c38
                                      have H' := Aside0.mk H
                                      clear H
                                      go_wp2_with (first | ((with_reducible refine gate_callee (f := 15) rfl ?_); refine goesL_ (some 95) rfl rfl Try.func15 (by kernel_rfl) rfl #[.int .i64 t246] rfl (by (try simp only [List.map_toArray, List.map_cons, List.map_nil]); first | done | rfl | (simp only [List.length_drop, List.length_take]; rfl)) ?_; (with_reducible refine (arraslaw19_num.calls t246 t255 _ A29.out).mono ?_); rintro e w' ⟨rfl, ⟨nd, rfl⟩⟩; refine ⟨_, rfl, ?_⟩) | (go_at_call 15; (with_reducible refine (arraslaw19_num.calls t250 t256 _ A31.out).mono ?_); rintro e w' ⟨rfl, ⟨nd, rfl⟩⟩) | (go_at_call 15; (with_reducible refine (arraslaw19_num.calls t254 t257 _ A33.out).mono ?_); rintro e w' ⟨rfl, ⟨nd, rfl⟩⟩; obtain ⟨Ao39, co39, eo39⟩ := Kd.R_slice HO248.out; subst eo39; obtain ⟨Ao40, co40, eo40⟩ := Kd.R_slice HO252.out; subst eo40; have p258 : 0 ≤ (0 : Int) := (by omega); have q258 : 0 < (t249.length : Int) := of_decide_eq_true (by first | (with_reducible assumption) | assumption); obtain ⟨ad258, e258, hx258_0⟩ := Kd.at_int (Kd.R_reads' HO252.out).2.2 0 p258 q258; cases e258; have qi258 : (0 < t249.length) = True := eq_true (by omega); (try rw [show ((0 : Int)).toNat = 0 from rfl] at hx258_0); (try rw [Addr.add_zero'] at hx258_0); replace p258 := eq_true p258; replace q258 := eq_true q258))
                                      go_meet
                                      case rel => exact ⟨_, ((t253 != (wrap64 (x5_7 + (wrap64 (t236 * (wrap64 ((x4_7.length : Int) - 1)))))))), (by first | rfl | (simp; done) | (simp [*]; done)), H', ⟨by have := HK1.out; have := HJ1.out; have := HJ7.out; first | omega | exact Nat.le_refl _⟩, ⟨by (with_reducible repeat (first | apply Kd.R_alloc | apply Kd.R_drewN | apply Kd.R_drew)); exact Kd.R_mono HO_4.out (fun _ hk => trivial)⟩, ⟨by repeat (first | (with_reducible first | exact HB.out | apply below_alloc | apply pw_below_drewN | apply below_drew1) | exact HB.out)⟩⟩
                                    · rw [if_neg c38] at H
                                      have c38b0 : ((rd t249 0) == (x4_7.length : Int)) = false := beq_eq_false_iff_ne.mpr c38
                                      have c38b1 : ((rd t249 0) != (x4_7.length : Int)) = true := bne_iff_ne.mpr c38
                                      have H' := Aside0.mk H
                                      clear H
                                      go_wp2_with (first | ((with_reducible refine gate_callee (f := 15) rfl ?_); refine goesL_ (some 95) rfl rfl Try.func15 (by kernel_rfl) rfl #[.int .i64 t246] rfl (by (try simp only [List.map_toArray, List.map_cons, List.map_nil]); first | done | rfl | (simp only [List.length_drop, List.length_take]; rfl)) ?_; (with_reducible refine (arraslaw19_num.calls t246 t255 _ A29.out).mono ?_); rintro e w' ⟨rfl, ⟨nd, rfl⟩⟩; refine ⟨_, rfl, ?_⟩) | (go_at_call 15; (with_reducible refine (arraslaw19_num.calls t250 t256 _ A31.out).mono ?_); rintro e w' ⟨rfl, ⟨nd, rfl⟩⟩) | (go_at_call 15; (with_reducible refine (arraslaw19_num.calls t254 t257 _ A33.out).mono ?_); rintro e w' ⟨rfl, ⟨nd, rfl⟩⟩; obtain ⟨Ao41, co41, eo41⟩ := Kd.R_slice HO248.out; subst eo41; obtain ⟨Ao42, co42, eo42⟩ := Kd.R_slice HO252.out; subst eo42; have p258 : 0 ≤ (0 : Int) := (by omega); have q258 : 0 < (t249.length : Int) := of_decide_eq_true (by first | (with_reducible assumption) | assumption); obtain ⟨ad258, e258, hx258_0⟩ := Kd.at_int (Kd.R_reads' HO252.out).2.2 0 p258 q258; cases e258; have qi258 : (0 < t249.length) = True := eq_true (by omega); (try rw [show ((0 : Int)).toNat = 0 from rfl] at hx258_0); (try rw [Addr.add_zero'] at hx258_0); replace p258 := eq_true p258; replace q258 := eq_true q258))
                                      go_meet
                                      case rel => exact ⟨_, (true), (by first | rfl | (simp; done) | (simp [*]; done)), H', ⟨by have := HK1.out; have := HJ1.out; have := HJ7.out; first | omega | exact Nat.le_refl _⟩, ⟨by (with_reducible repeat (first | apply Kd.R_alloc | apply Kd.R_drewN | apply Kd.R_drew)); exact Kd.R_mono HO_4.out (fun _ hk => trivial)⟩, ⟨by repeat (first | (with_reducible first | exact HB.out | apply below_alloc | apply pw_below_drewN | apply below_drew1) | exact HB.out)⟩⟩
                                  · rw [if_neg c37] at H
                                    exact absurd H (by simp)
                                · rw [if_neg c36] at H
                                  have c36b0 : ((t249.length : Int) == 1) = false := beq_eq_false_iff_ne.mpr c36
                                  have c36b1 : ((t249.length : Int) != 1) = true := bne_iff_ne.mpr c36
                                  have H' := Aside0.mk H
                                  clear H
                                  go_wp2_with (first | ((with_reducible refine gate_callee (f := 15) rfl ?_); refine goesL_ (some 95) rfl rfl Try.func15 (by kernel_rfl) rfl #[.int .i64 t246] rfl (by (try simp only [List.map_toArray, List.map_cons, List.map_nil]); first | done | rfl | (simp only [List.length_drop, List.length_take]; rfl)) ?_; (with_reducible refine (arraslaw19_num.calls t246 t255 _ A29.out).mono ?_); rintro e w' ⟨rfl, ⟨nd, rfl⟩⟩; refine ⟨_, rfl, ?_⟩) | (go_at_call 15; (with_reducible refine (arraslaw19_num.calls t250 t256 _ A31.out).mono ?_); rintro e w' ⟨rfl, ⟨nd, rfl⟩⟩) | (go_at_call 15; (with_reducible refine (arraslaw19_num.calls t254 t257 _ A33.out).mono ?_); rintro e w' ⟨rfl, ⟨nd, rfl⟩⟩; obtain ⟨Ao43, co43, eo43⟩ := Kd.R_slice HO248.out; subst eo43; obtain ⟨Ao44, co44, eo44⟩ := Kd.R_slice HO252.out; subst eo44))
                                  go_meet
                                  case rel => exact ⟨_, (true), (by first | rfl | (simp; done) | (simp [*]; done)), H', ⟨by have := HK1.out; have := HJ1.out; have := HJ7.out; first | omega | exact Nat.le_refl _⟩, ⟨by (with_reducible repeat (first | apply Kd.R_alloc | apply Kd.R_drewN | apply Kd.R_drew)); exact Kd.R_mono HO_4.out (fun _ hk => trivial)⟩, ⟨by repeat (first | (with_reducible first | exact HB.out | apply below_alloc | apply pw_below_drewN | apply below_drew1) | exact HB.out)⟩⟩
                              · rw [if_neg c35] at H
                                have c35b0 : ((t245.length : Int) == (x4_7.length : Int)) = false := beq_eq_false_iff_ne.mpr c35
                                have c35b1 : ((t245.length : Int) != (x4_7.length : Int)) = true := bne_iff_ne.mpr c35
                                have c35b2 : (t245.length == x4_7.length) = false := by first | simpa using c35 | (simp at c35 ⊢; omega)
                                have H' := Aside0.mk H
                                clear H
                                go_wp2_with (first | ((with_reducible refine gate_callee (f := 15) rfl ?_); refine goesL_ (some 95) rfl rfl Try.func15 (by kernel_rfl) rfl #[.int .i64 t246] rfl (by (try simp only [List.map_toArray, List.map_cons, List.map_nil]); first | done | rfl | (simp only [List.length_drop, List.length_take]; rfl)) ?_; (with_reducible refine (arraslaw19_num.calls t246 t255 _ A29.out).mono ?_); rintro e w' ⟨rfl, ⟨nd, rfl⟩⟩; refine ⟨_, rfl, ?_⟩) | (go_at_call 15; (with_reducible refine (arraslaw19_num.calls t250 t256 _ A31.out).mono ?_); rintro e w' ⟨rfl, ⟨nd, rfl⟩⟩) | (go_at_call 15; (with_reducible refine (arraslaw19_num.calls t254 t257 _ A33.out).mono ?_); rintro e w' ⟨rfl, ⟨nd, rfl⟩⟩; obtain ⟨Ao45, co45, eo45⟩ := Kd.R_slice HO248.out; subst eo45))
                                go_meet
                                case rel => exact ⟨_, (true), (by first | rfl | (simp; done) | (simp [*]; done)), H', ⟨by have := HK1.out; have := HJ1.out; have := HJ7.out; first | omega | exact Nat.le_refl _⟩, ⟨by (with_reducible repeat (first | apply Kd.R_alloc | apply Kd.R_drewN | apply Kd.R_drew)); exact Kd.R_mono HO_4.out (fun _ hk => trivial)⟩, ⟨by repeat (first | (with_reducible first | exact HB.out | apply below_alloc | apply pw_below_drewN | apply below_drew1) | exact HB.out)⟩⟩
                            · rw [if_neg c34] at H
                              have c34b0 : (t257 == 0) = false := beq_eq_false_iff_ne.mpr c34
                              have c34b1 : (t257 != 0) = true := bne_iff_ne.mpr c34
                              have H' := Aside0.mk H
                              clear H
                              go_wp2_with (first | ((with_reducible refine gate_callee (f := 15) rfl ?_); refine goesL_ (some 95) rfl rfl Try.func15 (by kernel_rfl) rfl #[.int .i64 t246] rfl (by (try simp only [List.map_toArray, List.map_cons, List.map_nil]); first | done | rfl | (simp only [List.length_drop, List.length_take]; rfl)) ?_; (with_reducible refine (arraslaw19_num.calls t246 t255 _ A29.out).mono ?_); rintro e w' ⟨rfl, ⟨nd, rfl⟩⟩; refine ⟨_, rfl, ?_⟩) | (go_at_call 15; (with_reducible refine (arraslaw19_num.calls t250 t256 _ A31.out).mono ?_); rintro e w' ⟨rfl, ⟨nd, rfl⟩⟩) | (go_at_call 15; (with_reducible refine (arraslaw19_num.calls t254 t257 _ A33.out).mono ?_); rintro e w' ⟨rfl, ⟨nd, rfl⟩⟩))
                              go_meet
                              case rel => exact ⟨_, (true), (by first | rfl | (simp; done) | (simp [*]; done)), H', ⟨by have := HK1.out; have := HJ1.out; have := HJ7.out; first | omega | exact Nat.le_refl _⟩, ⟨by (with_reducible repeat (first | apply Kd.R_alloc | apply Kd.R_drewN | apply Kd.R_drew)); exact Kd.R_mono HO_4.out (fun _ hk => trivial)⟩, ⟨by repeat (first | (with_reducible first | exact HB.out | apply below_alloc | apply pw_below_drewN | apply below_drew1) | exact HB.out)⟩⟩
                          · rw [if_neg c32] at H
                            have c32b0 : (t256 == 0) = false := beq_eq_false_iff_ne.mpr c32
                            have c32b1 : (t256 != 0) = true := bne_iff_ne.mpr c32
                            have H' := Aside0.mk H
                            clear H
                            go_wp2_with (first | ((with_reducible refine gate_callee (f := 15) rfl ?_); refine goesL_ (some 95) rfl rfl Try.func15 (by kernel_rfl) rfl #[.int .i64 t246] rfl (by (try simp only [List.map_toArray, List.map_cons, List.map_nil]); first | done | rfl | (simp only [List.length_drop, List.length_take]; rfl)) ?_; (with_reducible refine (arraslaw19_num.calls t246 t255 _ A29.out).mono ?_); rintro e w' ⟨rfl, ⟨nd, rfl⟩⟩; refine ⟨_, rfl, ?_⟩) | (go_at_call 15; (with_reducible refine (arraslaw19_num.calls t250 t256 _ A31.out).mono ?_); rintro e w' ⟨rfl, ⟨nd, rfl⟩⟩))
                            go_meet
                            case rel => exact ⟨_, (true), (by first | rfl | (simp; done) | (simp [*]; done)), H', ⟨by have := HK1.out; have := HJ1.out; have := HJ7.out; first | omega | exact Nat.le_refl _⟩, ⟨by (with_reducible repeat (first | apply Kd.R_alloc | apply Kd.R_drewN | apply Kd.R_drew)); exact Kd.R_mono HO_4.out (fun _ hk => trivial)⟩, ⟨by repeat (first | (with_reducible first | exact HB.out | apply below_alloc | apply pw_below_drewN | apply below_drew1) | exact HB.out)⟩⟩
                        · rw [if_neg c30] at H
                          have c30b0 : (t255 == 0) = false := beq_eq_false_iff_ne.mpr c30
                          have c30b1 : (t255 != 0) = true := bne_iff_ne.mpr c30
                          (first | rw [c30b0] | (simp only [i64_w, i32_w]; rw [c30b0]) | skip)
                          have H' := Aside0.mk H
                          clear H
                          go_wp2_with (first | ((with_reducible refine gate_callee (f := 15) rfl ?_); refine goesL_ (some 95) rfl rfl Try.func15 (by kernel_rfl) rfl #[.int .i64 t246] rfl (by (try simp only [List.map_toArray, List.map_cons, List.map_nil]); first | done | rfl | (simp only [List.length_drop, List.length_take]; rfl)) ?_; (with_reducible refine (arraslaw19_num.calls t246 t255 _ A29.out).mono ?_); rintro e w' ⟨rfl, ⟨nd, rfl⟩⟩; refine ⟨_, rfl, ?_⟩))
                          go_meet
                          case rel => exact ⟨_, (true), (by first | rfl | (simp; done) | (simp [*]; done)), H', ⟨by have := HK1.out; have := HJ1.out; have := HJ7.out; first | omega | exact Nat.le_refl _⟩, ⟨by (with_reducible repeat (first | apply Kd.R_alloc | apply Kd.R_drewN | apply Kd.R_drew)); exact Kd.R_mono HO_4.out (fun _ hk => trivial)⟩, ⟨by repeat (first | (with_reducible first | exact HB.out | apply below_alloc | apply pw_below_drewN | apply below_drew1) | exact HB.out)⟩⟩
                      case rest =>
                        clear HC24
                        try clear c1
                        try clear c2
                        try clear p2
                        try clear q2
                        try clear hx2
                        try clear qi2
                        try clear c3
                        try clear c3b0
                        try clear c4
                        try clear c5
                        try clear c5b0
                        try clear c6
                        try clear c6b0
                        try clear p6
                        try clear c9
                        try clear c9b0
                        try clear c10
                        try clear c10b0
                        try clear c11
                        try clear c11b0
                        try clear c12
                        try clear c12b0
                        try clear c13
                        try clear c13b0
                        try clear c15
                        try clear c16
                        try clear c16b0
                        try clear c19
                        try clear c19b0
                        try clear c19b1
                        try clear c19b2
                        try clear c22
                        try clear c23
                        try clear p23
                        try clear q23
                        try clear hx23
                        try clear p24
                        try clear q24
                        try clear hx24
                        try clear p25
                        try clear q25
                        try clear hx25
                        try clear qi25
                        try clear c30
                        try clear c30b0
                        try clear c30b1
                        try clear c32
                        try clear c32b0
                        try clear c32b1
                        try clear c34
                        try clear c34b0
                        try clear c34b1
                        try clear c35
                        try clear c35b0
                        try clear c35b1
                        try clear c35b2
                        try clear c36
                        try clear c36b0
                        try clear c36b1
                        try clear c37
                        try clear c37b0
                        try clear c37b1
                        try clear c38
                        try clear c38b0
                        try clear c38b1
                        try clear hx235_0
                        try clear hx235_1
                        try clear hx235_2
                        try clear hx237_0
                        try clear hx237_1
                        try clear hx237_2
                        try clear hx238_0
                        try clear hx238_1
                        try clear hx238_2
                        try clear hx239_0
                        try clear hx244_0
                        try clear hx258_0
                        try clear p2
                        try clear p235
                        try clear p237
                        try clear p238
                        try clear p239
                        try clear p244
                        try clear p258
                        try clear p6
                        try clear q2
                        try clear q235
                        try clear q237
                        try clear q238
                        try clear q239
                        try clear q244
                        try clear q258
                        obtain ⟨kq, x131_23, rfl, HA, HJ23, HO_4, HB⟩ := hcut
                        cases kq with
                        | zero => exact absurd HA.out (by simp [arraslaw19_LineOnes.j4])
                        | succ kj23 =>
                          have H := HA.out
                          clear HA
                          simp only [arraslaw19_LineOnes.j4] at H
                          by_cases c46 : x131_23 = true
                          · subst c46
                            have H1 : (some false) = some r := by rw [if_pos rfl] at H; exact H
                            clear H
                            have H := H1
                            clear H1
                            obtain rfl := Option.some.inj H
                            go_wp2
                            go_ret
                            exact ⟨by first | rfl | (simp [errW_none, errW_some] <;> rfl) | (simp [*, errW_none, errW_some] <;> rfl), by repeat (first | (with_reducible first | exact HB.out | apply below_alloc | apply pw_below_drewN | apply below_drew1) | exact HB.out)⟩
                          · replace c46 := Bool.eq_false_iff.mpr c46
                            subst c46
                            have H1 : ((line_Break.f kj23 x4_7 t236 (wrap64 ((wrap64 (x5_7 + (wrap64 (t236 * (wrap64 ((x4_7.length : Int) - 1)))))) - 1))).bind fun bt259 => ((arraslaw19_num.f bt259.2).bind fun t263 => (if t263 = 0 then (if (x4_7.length : Int) > 1 then (if (bt259.1.length : Int) = 2 then (if (x4_7.length : Int) = 1 then (if (bt259.1.length : Int) = 1 then (arraslaw19_LineOnes.l0 kj23 l0 (wrap64 (x3_1 + 1))) else (some false)) else (arraslaw19_LineOnes.l0 kj23 l0 (wrap64 (x3_1 + 1)))) else (some false)) else (if (x4_7.length : Int) = 1 then (if (bt259.1.length : Int) = 1 then (arraslaw19_LineOnes.l0 kj23 l0 (wrap64 (x3_1 + 1))) else (some false)) else (arraslaw19_LineOnes.l0 kj23 l0 (wrap64 (x3_1 + 1))))) else (some false)))) = some r := by rw [if_neg (show ¬ (false = true) by decide)] at H; exact H
                            clear H
                            have H := H1
                            clear H1
                            replace H := Option.bind_eq_some_iff.mp H
                            obtain ⟨⟨t259, t260⟩, A470, H⟩ := H
                            replace H : ((arraslaw19_num.f t260).bind fun t263 => (if t263 = 0 then (if (x4_7.length : Int) > 1 then (if (t259.length : Int) = 2 then (if (x4_7.length : Int) = 1 then (if (t259.length : Int) = 1 then (arraslaw19_LineOnes.l0 kj23 l0 (wrap64 (x3_1 + 1))) else (some false)) else (arraslaw19_LineOnes.l0 kj23 l0 (wrap64 (x3_1 + 1)))) else (some false)) else (if (x4_7.length : Int) = 1 then (if (t259.length : Int) = 1 then (arraslaw19_LineOnes.l0 kj23 l0 (wrap64 (x3_1 + 1))) else (some false)) else (arraslaw19_LineOnes.l0 kj23 l0 (wrap64 (x3_1 + 1))))) else (some false))) = some r := H
                            have A47 := Aside0.mk A470
                            clear A470
                            replace H := Option.bind_eq_some_iff.mp H
                            obtain ⟨t263, A480, H⟩ := H
                            replace H : (if t263 = 0 then (if (x4_7.length : Int) > 1 then (if (t259.length : Int) = 2 then (if (x4_7.length : Int) = 1 then (if (t259.length : Int) = 1 then (arraslaw19_LineOnes.l0 kj23 l0 (wrap64 (x3_1 + 1))) else (some false)) else (arraslaw19_LineOnes.l0 kj23 l0 (wrap64 (x3_1 + 1)))) else (some false)) else (if (x4_7.length : Int) = 1 then (if (t259.length : Int) = 1 then (arraslaw19_LineOnes.l0 kj23 l0 (wrap64 (x3_1 + 1))) else (some false)) else (arraslaw19_LineOnes.l0 kj23 l0 (wrap64 (x3_1 + 1))))) else (some false)) = some r := H
                            have A48 := Aside0.mk A480
                            clear A480
                            by_cases c49 : t263 = 0
                            · rw [if_pos c49] at H
                              have c49b0 : (t263 == 0) = true := beq_iff_eq.mpr c49
                              have c49b1 : (t263 != 0) = false := bne_eq_false_iff_eq.mpr c49
                              clear c49
                              by_cases c50 : (x4_7.length : Int) > 1
                              · rw [if_pos c50] at H
                                have c50b0 : decide (1 < (x4_7.length : Int)) = true := decide_eq_true c50
                                have c50b1 : decide (1 < x4_7.length) = true := decide_eq_true (by omega)
                                clear c50
                                by_cases c51 : (t259.length : Int) = 2
                                · rw [if_pos c51] at H
                                  have c51b0 : ((t259.length : Int) == 2) = true := beq_iff_eq.mpr c51
                                  have c51b1 : ((t259.length : Int) != 2) = false := bne_eq_false_iff_eq.mpr c51
                                  clear c51
                                  by_cases c52 : (x4_7.length : Int) = 1
                                  · rw [if_pos c52] at H
                                    have c52b0 : ((x4_7.length : Int) == 1) = true := beq_iff_eq.mpr c52
                                    have c52b1 : ((x4_7.length : Int) != 1) = false := bne_eq_false_iff_eq.mpr c52
                                    clear c52
                                    by_cases c53 : (t259.length : Int) = 1
                                    · rw [if_pos c53] at H
                                      have c53b0 : ((t259.length : Int) == 1) = true := beq_iff_eq.mpr c53
                                      have c53b1 : ((t259.length : Int) != 1) = false := bne_eq_false_iff_eq.mpr c53
                                      clear c53
                                      have H' := Aside0.mk H
                                      clear H
                                      go_wp2_with (first | ((with_reducible refine gate_callee (f := 12) rfl ?_); refine goesL_ (some 137) rfl rfl Try.func12 (by kernel_rfl) rfl #[.slice Ao25 x4_7.length co25, .int .i64 t236, .int .i64 (wrap64 ((wrap64 (x5_7 + (wrap64 (t236 * (wrap64 ((x4_7.length : Int) - 1)))))) - 1))] rfl (by (try simp only [List.map_toArray, List.map_cons, List.map_nil]); first | done | rfl | (simp only [List.length_drop, List.length_take]; rfl)) ?_; (with_reducible refine (line_Break.calls kj23 _ _ x4_7 t236 (wrap64 ((wrap64 (x5_7 + (wrap64 (t236 * (wrap64 ((x4_7.length : Int) - 1)))))) - 1)) t259 t260 _ ?side1 ?side2 A47.out).mono ?_); (case side1 => repeat (first | exact (Kd.R_reads' HO_4.out).2.2 | (with_reducible refine Kd.C_alloc ?_ _) | (with_reducible refine Kd.C_drewN ?_ _) | (with_reducible refine Kd.C_drew ?_))); (case side2 => exact (Kd.R_reads' HO_4.out).2.1); rintro e w54 ⟨v261, rfl, ho0, hb⟩; refine ⟨_, rfl, ?_⟩; have n0_ := Aside0.mk (Kd.R_elder' (by (with_reducible repeat (first | apply Kd.R_alloc | apply Kd.R_drewN | apply Kd.R_drew)); exact HO_4.out) (Kd.R_base ho0) hb); have n1_ := Aside0.mk (Kd.R_lower (Kd.R_new' ho0 (Kd.R_lt (by (with_reducible repeat (first | apply Kd.R_alloc | apply Kd.R_drewN | apply Kd.R_drew)); exact HO_4.out))) (below_size (by repeat (first | (with_reducible first | exact HB.out | apply below_alloc | apply pw_below_drewN | apply below_drew1) | exact HB.out)))); have n2_ := Aside0.mk (below_step (by repeat (first | (with_reducible first | exact HB.out | apply below_alloc | apply pw_below_drewN | apply below_drew1) | exact HB.out)) hb); clear HO_4; clear HB; have HO_4 := n0_; have HO262 := n1_; have HB := n2_; clear n0_ n1_ n2_; (try clear hb); (try clear hb2); (try clear hk); (try clear hi); (try clear ho0)) | ((with_reducible refine gate_callee (f := 15) rfl ?_); refine goesL_ (some 141) rfl rfl Try.func15 (by kernel_rfl) rfl #[.int .i64 t260] rfl (by (try simp only [List.map_toArray, List.map_cons, List.map_nil]); first | done | rfl | (simp only [List.length_drop, List.length_take]; rfl)) ?_; (with_reducible refine (arraslaw19_num.calls t260 t263 _ A48.out).mono ?_); rintro e w' ⟨rfl, ⟨nd, rfl⟩⟩; refine ⟨_, rfl, ?_⟩; obtain ⟨Ao55, co55, eo55⟩ := Kd.R_slice HO262.out; subst eo55))
                                      go_roundg kj23
                                      case measure => have := HK1.out; have := HJ1.out; have := HJ7.out; have := HJ23.out; omega
                                      case rel => exact ⟨(wrap64 (x3_1 + 1)), (by first | rfl | (simp; done) | (simp [*]; done)), H', ⟨by have := HK1.out; have := HJ1.out; have := HJ7.out; have := HJ23.out; omega⟩, ⟨by repeat (first | (with_reducible first | exact HB.out | apply below_alloc | apply pw_below_drewN | apply below_drew1) | exact HB.out)⟩⟩
                                    · rw [if_neg c53] at H
                                      have c53b0 : ((t259.length : Int) == 1) = false := beq_eq_false_iff_ne.mpr c53
                                      have c53b1 : ((t259.length : Int) != 1) = true := bne_iff_ne.mpr c53
                                      obtain rfl := Option.some.inj H
                                      go_wp2_with (first | ((with_reducible refine gate_callee (f := 12) rfl ?_); refine goesL_ (some 137) rfl rfl Try.func12 (by kernel_rfl) rfl #[.slice Ao25 x4_7.length co25, .int .i64 t236, .int .i64 (wrap64 ((wrap64 (x5_7 + (wrap64 (t236 * (wrap64 ((x4_7.length : Int) - 1)))))) - 1))] rfl (by (try simp only [List.map_toArray, List.map_cons, List.map_nil]); first | done | rfl | (simp only [List.length_drop, List.length_take]; rfl)) ?_; (with_reducible refine (line_Break.calls kj23 _ _ x4_7 t236 (wrap64 ((wrap64 (x5_7 + (wrap64 (t236 * (wrap64 ((x4_7.length : Int) - 1)))))) - 1)) t259 t260 _ ?side1 ?side2 A47.out).mono ?_); (case side1 => repeat (first | exact (Kd.R_reads' HO_4.out).2.2 | (with_reducible refine Kd.C_alloc ?_ _) | (with_reducible refine Kd.C_drewN ?_ _) | (with_reducible refine Kd.C_drew ?_))); (case side2 => exact (Kd.R_reads' HO_4.out).2.1); rintro e w56 ⟨v261, rfl, ho0, hb⟩; refine ⟨_, rfl, ?_⟩; have n0_ := Aside0.mk (Kd.R_elder' (by (with_reducible repeat (first | apply Kd.R_alloc | apply Kd.R_drewN | apply Kd.R_drew)); exact HO_4.out) (Kd.R_base ho0) hb); have n1_ := Aside0.mk (Kd.R_lower (Kd.R_new' ho0 (Kd.R_lt (by (with_reducible repeat (first | apply Kd.R_alloc | apply Kd.R_drewN | apply Kd.R_drew)); exact HO_4.out))) (below_size (by repeat (first | (with_reducible first | exact HB.out | apply below_alloc | apply pw_below_drewN | apply below_drew1) | exact HB.out)))); have n2_ := Aside0.mk (below_step (by repeat (first | (with_reducible first | exact HB.out | apply below_alloc | apply pw_below_drewN | apply below_drew1) | exact HB.out)) hb); clear HO_4; clear HB; have HO_4 := n0_; have HO262 := n1_; have HB := n2_; clear n0_ n1_ n2_; (try clear hb); (try clear hb2); (try clear hk); (try clear hi); (try clear ho0)) | ((with_reducible refine gate_callee (f := 15) rfl ?_); refine goesL_ (some 141) rfl rfl Try.func15 (by kernel_rfl) rfl #[.int .i64 t260] rfl (by (try simp only [List.map_toArray, List.map_cons, List.map_nil]); first | done | rfl | (simp only [List.length_drop, List.length_take]; rfl)) ?_; (with_reducible refine (arraslaw19_num.calls t260 t263 _ A48.out).mono ?_); rintro e w' ⟨rfl, ⟨nd, rfl⟩⟩; refine ⟨_, rfl, ?_⟩; obtain ⟨Ao57, co57, eo57⟩ := Kd.R_slice HO262.out; subst eo57))
                                      go_ret
                                      exact ⟨by first | rfl | (simp [errW_none, errW_some] <;> rfl) | (simp [*, errW_none, errW_some] <;> rfl), by repeat (first | (with_reducible first | exact HB.out | apply below_alloc | apply pw_below_drewN | apply below_drew1) | exact HB.out)⟩
                                  · rw [if_neg c52] at H
                                    have c52b0 : ((x4_7.length : Int) == 1) = false := beq_eq_false_iff_ne.mpr c52
                                    have c52b1 : ((x4_7.length : Int) != 1) = true := bne_iff_ne.mpr c52
                                    have H' := Aside0.mk H
                                    clear H
                                    go_wp2_with (first | ((with_reducible refine gate_callee (f := 12) rfl ?_); refine goesL_ (some 137) rfl rfl Try.func12 (by kernel_rfl) rfl #[.slice Ao25 x4_7.length co25, .int .i64 t236, .int .i64 (wrap64 ((wrap64 (x5_7 + (wrap64 (t236 * (wrap64 ((x4_7.length : Int) - 1)))))) - 1))] rfl (by (try simp only [List.map_toArray, List.map_cons, List.map_nil]); first | done | rfl | (simp only [List.length_drop, List.length_take]; rfl)) ?_; (with_reducible refine (line_Break.calls kj23 _ _ x4_7 t236 (wrap64 ((wrap64 (x5_7 + (wrap64 (t236 * (wrap64 ((x4_7.length : Int) - 1)))))) - 1)) t259 t260 _ ?side1 ?side2 A47.out).mono ?_); (case side1 => repeat (first | exact (Kd.R_reads' HO_4.out).2.2 | (with_reducible refine Kd.C_alloc ?_ _) | (with_reducible refine Kd.C_drewN ?_ _) | (with_reducible refine Kd.C_drew ?_))); (case side2 => exact (Kd.R_reads' HO_4.out).2.1); rintro e w58 ⟨v261, rfl, ho0, hb⟩; refine ⟨_, rfl, ?_⟩; have n0_ := Aside0.mk (Kd.R_elder' (by (with_reducible repeat (first | apply Kd.R_alloc | apply Kd.R_drewN | apply Kd.R_drew)); exact HO_4.out) (Kd.R_base ho0) hb); have n1_ := Aside0.mk (Kd.R_lower (Kd.R_new' ho0 (Kd.R_lt (by (with_reducible repeat (first | apply Kd.R_alloc | apply Kd.R_drewN | apply Kd.R_drew)); exact HO_4.out))) (below_size (by repeat (first | (with_reducible first | exact HB.out | apply below_alloc | apply pw_below_drewN | apply below_drew1) | exact HB.out)))); have n2_ := Aside0.mk (below_step (by repeat (first | (with_reducible first | exact HB.out | apply below_alloc | apply pw_below_drewN | apply below_drew1) | exact HB.out)) hb); clear HO_4; clear HB; have HO_4 := n0_; have HO262 := n1_; have HB := n2_; clear n0_ n1_ n2_; (try clear hb); (try clear hb2); (try clear hk); (try clear hi); (try clear ho0)) | ((with_reducible refine gate_callee (f := 15) rfl ?_); refine goesL_ (some 141) rfl rfl Try.func15 (by kernel_rfl) rfl #[.int .i64 t260] rfl (by (try simp only [List.map_toArray, List.map_cons, List.map_nil]); first | done | rfl | (simp only [List.length_drop, List.length_take]; rfl)) ?_; (with_reducible refine (arraslaw19_num.calls t260 t263 _ A48.out).mono ?_); rintro e w' ⟨rfl, ⟨nd, rfl⟩⟩; refine ⟨_, rfl, ?_⟩; obtain ⟨Ao59, co59, eo59⟩ := Kd.R_slice HO262.out; subst eo59))
                                    go_roundg kj23
                                    case measure => have := HK1.out; have := HJ1.out; have := HJ7.out; have := HJ23.out; omega
                                    case rel => exact ⟨(wrap64 (x3_1 + 1)), (by first | rfl | (simp; done) | (simp [*]; done)), H', ⟨by have := HK1.out; have := HJ1.out; have := HJ7.out; have := HJ23.out; omega⟩, ⟨by repeat (first | (with_reducible first | exact HB.out | apply below_alloc | apply pw_below_drewN | apply below_drew1) | exact HB.out)⟩⟩
                                · rw [if_neg c51] at H
                                  have c51b0 : ((t259.length : Int) == 2) = false := beq_eq_false_iff_ne.mpr c51
                                  have c51b1 : ((t259.length : Int) != 2) = true := bne_iff_ne.mpr c51
                                  obtain rfl := Option.some.inj H
                                  go_wp2_with (first | ((with_reducible refine gate_callee (f := 12) rfl ?_); refine goesL_ (some 137) rfl rfl Try.func12 (by kernel_rfl) rfl #[.slice Ao25 x4_7.length co25, .int .i64 t236, .int .i64 (wrap64 ((wrap64 (x5_7 + (wrap64 (t236 * (wrap64 ((x4_7.length : Int) - 1)))))) - 1))] rfl (by (try simp only [List.map_toArray, List.map_cons, List.map_nil]); first | done | rfl | (simp only [List.length_drop, List.length_take]; rfl)) ?_; (with_reducible refine (line_Break.calls kj23 _ _ x4_7 t236 (wrap64 ((wrap64 (x5_7 + (wrap64 (t236 * (wrap64 ((x4_7.length : Int) - 1)))))) - 1)) t259 t260 _ ?side1 ?side2 A47.out).mono ?_); (case side1 => repeat (first | exact (Kd.R_reads' HO_4.out).2.2 | (with_reducible refine Kd.C_alloc ?_ _) | (with_reducible refine Kd.C_drewN ?_ _) | (with_reducible refine Kd.C_drew ?_))); (case side2 => exact (Kd.R_reads' HO_4.out).2.1); rintro e w60 ⟨v261, rfl, ho0, hb⟩; refine ⟨_, rfl, ?_⟩; have n0_ := Aside0.mk (Kd.R_elder' (by (with_reducible repeat (first | apply Kd.R_alloc | apply Kd.R_drewN | apply Kd.R_drew)); exact HO_4.out) (Kd.R_base ho0) hb); have n1_ := Aside0.mk (Kd.R_lower (Kd.R_new' ho0 (Kd.R_lt (by (with_reducible repeat (first | apply Kd.R_alloc | apply Kd.R_drewN | apply Kd.R_drew)); exact HO_4.out))) (below_size (by repeat (first | (with_reducible first | exact HB.out | apply below_alloc | apply pw_below_drewN | apply below_drew1) | exact HB.out)))); have n2_ := Aside0.mk (below_step (by repeat (first | (with_reducible first | exact HB.out | apply below_alloc | apply pw_below_drewN | apply below_drew1) | exact HB.out)) hb); clear HO_4; clear HB; have HO_4 := n0_; have HO262 := n1_; have HB := n2_; clear n0_ n1_ n2_; (try clear hb); (try clear hb2); (try clear hk); (try clear hi); (try clear ho0)) | ((with_reducible refine gate_callee (f := 15) rfl ?_); refine goesL_ (some 141) rfl rfl Try.func15 (by kernel_rfl) rfl #[.int .i64 t260] rfl (by (try simp only [List.map_toArray, List.map_cons, List.map_nil]); first | done | rfl | (simp only [List.length_drop, List.length_take]; rfl)) ?_; (with_reducible refine (arraslaw19_num.calls t260 t263 _ A48.out).mono ?_); rintro e w' ⟨rfl, ⟨nd, rfl⟩⟩; refine ⟨_, rfl, ?_⟩; obtain ⟨Ao61, co61, eo61⟩ := Kd.R_slice HO262.out; subst eo61))
                                  go_ret
                                  exact ⟨by first | rfl | (simp [errW_none, errW_some] <;> rfl) | (simp [*, errW_none, errW_some] <;> rfl), by repeat (first | (with_reducible first | exact HB.out | apply below_alloc | apply pw_below_drewN | apply below_drew1) | exact HB.out)⟩
                              · rw [if_neg c50] at H
                                have c50b0 : decide (1 < (x4_7.length : Int)) = false := decide_eq_false c50
                                have c50b1 : decide (1 < x4_7.length) = false := decide_eq_false (by omega)
                                clear c50
                                by_cases c62 : (x4_7.length : Int) = 1
                                · rw [if_pos c62] at H
                                  have c62b0 : ((x4_7.length : Int) == 1) = true := beq_iff_eq.mpr c62
                                  have c62b1 : ((x4_7.length : Int) != 1) = false := bne_eq_false_iff_eq.mpr c62
                                  clear c62
                                  by_cases c63 : (t259.length : Int) = 1
                                  · rw [if_pos c63] at H
                                    have c63b0 : ((t259.length : Int) == 1) = true := beq_iff_eq.mpr c63
                                    have c63b1 : ((t259.length : Int) != 1) = false := bne_eq_false_iff_eq.mpr c63
                                    clear c63
                                    have H' := Aside0.mk H
                                    clear H
                                    go_wp2_with (first | ((with_reducible refine gate_callee (f := 12) rfl ?_); refine goesL_ (some 137) rfl rfl Try.func12 (by kernel_rfl) rfl #[.slice Ao25 x4_7.length co25, .int .i64 t236, .int .i64 (wrap64 ((wrap64 (x5_7 + (wrap64 (t236 * (wrap64 ((x4_7.length : Int) - 1)))))) - 1))] rfl (by (try simp only [List.map_toArray, List.map_cons, List.map_nil]); first | done | rfl | (simp only [List.length_drop, List.length_take]; rfl)) ?_; (with_reducible refine (line_Break.calls kj23 _ _ x4_7 t236 (wrap64 ((wrap64 (x5_7 + (wrap64 (t236 * (wrap64 ((x4_7.length : Int) - 1)))))) - 1)) t259 t260 _ ?side1 ?side2 A47.out).mono ?_); (case side1 => repeat (first | exact (Kd.R_reads' HO_4.out).2.2 | (with_reducible refine Kd.C_alloc ?_ _) | (with_reducible refine Kd.C_drewN ?_ _) | (with_reducible refine Kd.C_drew ?_))); (case side2 => exact (Kd.R_reads' HO_4.out).2.1); rintro e w64 ⟨v261, rfl, ho0, hb⟩; refine ⟨_, rfl, ?_⟩; have n0_ := Aside0.mk (Kd.R_elder' (by (with_reducible repeat (first | apply Kd.R_alloc | apply Kd.R_drewN | apply Kd.R_drew)); exact HO_4.out) (Kd.R_base ho0) hb); have n1_ := Aside0.mk (Kd.R_lower (Kd.R_new' ho0 (Kd.R_lt (by (with_reducible repeat (first | apply Kd.R_alloc | apply Kd.R_drewN | apply Kd.R_drew)); exact HO_4.out))) (below_size (by repeat (first | (with_reducible first | exact HB.out | apply below_alloc | apply pw_below_drewN | apply below_drew1) | exact HB.out)))); have n2_ := Aside0.mk (below_step (by repeat (first | (with_reducible first | exact HB.out | apply below_alloc | apply pw_below_drewN | apply below_drew1) | exact HB.out)) hb); clear HO_4; clear HB; have HO_4 := n0_; have HO262 := n1_; have HB := n2_; clear n0_ n1_ n2_; (try clear hb); (try clear hb2); (try clear hk); (try clear hi); (try clear ho0)) | ((with_reducible refine gate_callee (f := 15) rfl ?_); refine goesL_ (some 141) rfl rfl Try.func15 (by kernel_rfl) rfl #[.int .i64 t260] rfl (by (try simp only [List.map_toArray, List.map_cons, List.map_nil]); first | done | rfl | (simp only [List.length_drop, List.length_take]; rfl)) ?_; (with_reducible refine (arraslaw19_num.calls t260 t263 _ A48.out).mono ?_); rintro e w' ⟨rfl, ⟨nd, rfl⟩⟩; refine ⟨_, rfl, ?_⟩; obtain ⟨Ao65, co65, eo65⟩ := Kd.R_slice HO262.out; subst eo65))
                                    go_roundg kj23
                                    case measure => have := HK1.out; have := HJ1.out; have := HJ7.out; have := HJ23.out; omega
                                    case rel => exact ⟨(wrap64 (x3_1 + 1)), (by first | rfl | (simp; done) | (simp [*]; done)), H', ⟨by have := HK1.out; have := HJ1.out; have := HJ7.out; have := HJ23.out; omega⟩, ⟨by repeat (first | (with_reducible first | exact HB.out | apply below_alloc | apply pw_below_drewN | apply below_drew1) | exact HB.out)⟩⟩
                                  · rw [if_neg c63] at H
                                    have c63b0 : ((t259.length : Int) == 1) = false := beq_eq_false_iff_ne.mpr c63
                                    have c63b1 : ((t259.length : Int) != 1) = true := bne_iff_ne.mpr c63
                                    obtain rfl := Option.some.inj H
                                    go_wp2_with (first | ((with_reducible refine gate_callee (f := 12) rfl ?_); refine goesL_ (some 137) rfl rfl Try.func12 (by kernel_rfl) rfl #[.slice Ao25 x4_7.length co25, .int .i64 t236, .int .i64 (wrap64 ((wrap64 (x5_7 + (wrap64 (t236 * (wrap64 ((x4_7.length : Int) - 1)))))) - 1))] rfl (by (try simp only [List.map_toArray, List.map_cons, List.map_nil]); first | done | rfl | (simp only [List.length_drop, List.length_take]; rfl)) ?_; (with_reducible refine (line_Break.calls kj23 _ _ x4_7 t236 (wrap64 ((wrap64 (x5_7 + (wrap64 (t236 * (wrap64 ((x4_7.length : Int) - 1)))))) - 1)) t259 t260 _ ?side1 ?side2 A47.out).mono ?_); (case side1 => repeat (first | exact (Kd.R_reads' HO_4.out).2.2 | (with_reducible refine Kd.C_alloc ?_ _) | (with_reducible refine Kd.C_drewN ?_ _) | (with_reducible refine Kd.C_drew ?_))); (case side2 => exact (Kd.R_reads' HO_4.out).2.1); rintro e w66 ⟨v261, rfl, ho0, hb⟩; refine ⟨_, rfl, ?_⟩; have n0_ := Aside0.mk (Kd.R_elder' (by (with_reducible repeat (first | apply Kd.R_alloc | apply Kd.R_drewN | apply Kd.R_drew)); exact HO_4.out) (Kd.R_base ho0) hb); have n1_ := Aside0.mk (Kd.R_lower (Kd.R_new' ho0 (Kd.R_lt (by (with_reducible repeat (first | apply Kd.R_alloc | apply Kd.R_drewN | apply Kd.R_drew)); exact HO_4.out))) (below_size (by repeat (first | (with_reducible first | exact HB.out | apply below_alloc | apply pw_below_drewN | apply below_drew1) | exact HB.out)))); have n2_ := Aside0.mk (below_step (by repeat (first | (with_reducible first | exact HB.out | apply below_alloc | apply pw_below_drewN | apply below_drew1) | exact HB.out)) hb); clear HO_4; clear HB; have HO_4 := n0_; have HO262 := n1_; have HB := n2_; clear n0_ n1_ n2_; (try clear hb); (try clear hb2); (try clear hk); (try clear hi); (try clear ho0)) | ((with_reducible refine gate_callee (f := 15) rfl ?_); refine goesL_ (some 141) rfl rfl Try.func15 (by kernel_rfl) rfl #[.int .i64 t260] rfl (by (try simp only [List.map_toArray, List.map_cons, List.map_nil]); first | done | rfl | (simp only [List.length_drop, List.length_take]; rfl)) ?_; (with_reducible refine (arraslaw19_num.calls t260 t263 _ A48.out).mono ?_); rintro e w' ⟨rfl, ⟨nd, rfl⟩⟩; refine ⟨_, rfl, ?_⟩; obtain ⟨Ao67, co67, eo67⟩ := Kd.R_slice HO262.out; subst eo67))
                                    go_ret
                                    exact ⟨by first | rfl | (simp [errW_none, errW_some] <;> rfl) | (simp [*, errW_none, errW_some] <;> rfl), by repeat (first | (with_reducible first | exact HB.out | apply below_alloc | apply pw_below_drewN | apply below_drew1) | exact HB.out)⟩
                                · rw [if_neg c62] at H
                                  have c62b0 : ((x4_7.length : Int) == 1) = false := beq_eq_false_iff_ne.mpr c62
                                  have c62b1 : ((x4_7.length : Int) != 1) = true := bne_iff_ne.mpr c62
                                  have H' := Aside0.mk H
                                  clear H
                                  go_wp2_with (first | ((with_reducible refine gate_callee (f := 12) rfl ?_); refine goesL_ (some 137) rfl rfl Try.func12 (by kernel_rfl) rfl #[.slice Ao25 x4_7.length co25, .int .i64 t236, .int .i64 (wrap64 ((wrap64 (x5_7 + (wrap64 (t236 * (wrap64 ((x4_7.length : Int) - 1)))))) - 1))] rfl (by (try simp only [List.map_toArray, List.map_cons, List.map_nil]); first | done | rfl | (simp only [List.length_drop, List.length_take]; rfl)) ?_; (with_reducible refine (line_Break.calls kj23 _ _ x4_7 t236 (wrap64 ((wrap64 (x5_7 + (wrap64 (t236 * (wrap64 ((x4_7.length : Int) - 1)))))) - 1)) t259 t260 _ ?side1 ?side2 A47.out).mono ?_); (case side1 => repeat (first | exact (Kd.R_reads' HO_4.out).2.2 | (with_reducible refine Kd.C_alloc ?_ _) | (with_reducible refine Kd.C_drewN ?_ _) | (with_reducible refine Kd.C_drew ?_))); (case side2 => exact (Kd.R_reads' HO_4.out).2.1); rintro e w68 ⟨v261, rfl, ho0, hb⟩; refine ⟨_, rfl, ?_⟩; have n0_ := Aside0.mk (Kd.R_elder' (by (with_reducible repeat (first | apply Kd.R_alloc | apply Kd.R_drewN | apply Kd.R_drew)); exact HO_4.out) (Kd.R_base ho0) hb); have n1_ := Aside0.mk (Kd.R_lower (Kd.R_new' ho0 (Kd.R_lt (by (with_reducible repeat (first | apply Kd.R_alloc | apply Kd.R_drewN | apply Kd.R_drew)); exact HO_4.out))) (below_size (by repeat (first | (with_reducible first | exact HB.out | apply below_alloc | apply pw_below_drewN | apply below_drew1) | exact HB.out)))); have n2_ := Aside0.mk (below_step (by repeat (first | (with_reducible first | exact HB.out | apply below_alloc | apply pw_below_drewN | apply below_drew1) | exact HB.out)) hb); clear HO_4; clear HB; have HO_4 := n0_; have HO262 := n1_; have HB := n2_; clear n0_ n1_ n2_; (try clear hb); (try clear hb2); (try clear hk); (try clear hi); (try clear ho0)) | ((with_reducible refine gate_callee (f := 15) rfl ?_); refine goesL_ (some 141) rfl rfl Try.func15 (by kernel_rfl) rfl #[.int .i64 t260] rfl (by (try simp only [List.map_toArray, List.map_cons, List.map_nil]); first | done | rfl | (simp only [List.length_drop, List.length_take]; rfl)) ?_; (with_reducible refine (arraslaw19_num.calls t260 t263 _ A48.out).mono ?_); rintro e w' ⟨rfl, ⟨nd, rfl⟩⟩; refine ⟨_, rfl, ?_⟩))
                                  go_roundg kj23
                                  case measure => have := HK1.out; have := HJ1.out; have := HJ7.out; have := HJ23.out; omega
                                  case rel => exact ⟨(wrap64 (x3_1 + 1)), (by first | rfl | (simp; done) | (simp [*]; done)), H', ⟨by have := HK1.out; have := HJ1.out; have := HJ7.out; have := HJ23.out; omega⟩, ⟨by repeat (first | (with_reducible first | exact HB.out | apply below_alloc | apply pw_below_drewN | apply below_drew1) | exact HB.out)⟩⟩
                            · rw [if_neg c49] at H
                              have c49b0 : (t263 == 0) = false := beq_eq_false_iff_ne.mpr c49
                              have c49b1 : (t263 != 0) = true := bne_iff_ne.mpr c49
                              obtain rfl := Option.some.inj H
                              go_wp2_with (first | ((with_reducible refine gate_callee (f := 12) rfl ?_); refine goesL_ (some 137) rfl rfl Try.func12 (by kernel_rfl) rfl #[.slice Ao25 x4_7.length co25, .int .i64 t236, .int .i64 (wrap64 ((wrap64 (x5_7 + (wrap64 (t236 * (wrap64 ((x4_7.length : Int) - 1)))))) - 1))] rfl (by (try simp only [List.map_toArray, List.map_cons, List.map_nil]); first | done | rfl | (simp only [List.length_drop, List.length_take]; rfl)) ?_; (with_reducible refine (line_Break.calls kj23 _ _ x4_7 t236 (wrap64 ((wrap64 (x5_7 + (wrap64 (t236 * (wrap64 ((x4_7.length : Int) - 1)))))) - 1)) t259 t260 _ ?side1 ?side2 A47.out).mono ?_); (case side1 => repeat (first | exact (Kd.R_reads' HO_4.out).2.2 | (with_reducible refine Kd.C_alloc ?_ _) | (with_reducible refine Kd.C_drewN ?_ _) | (with_reducible refine Kd.C_drew ?_))); (case side2 => exact (Kd.R_reads' HO_4.out).2.1); rintro e w69 ⟨v261, rfl, ho0, hb⟩; refine ⟨_, rfl, ?_⟩; have n0_ := Aside0.mk (Kd.R_elder' (by (with_reducible repeat (first | apply Kd.R_alloc | apply Kd.R_drewN | apply Kd.R_drew)); exact HO_4.out) (Kd.R_base ho0) hb); have n1_ := Aside0.mk (Kd.R_lower (Kd.R_new' ho0 (Kd.R_lt (by (with_reducible repeat (first | apply Kd.R_alloc | apply Kd.R_drewN | apply Kd.R_drew)); exact HO_4.out))) (below_size (by repeat (first | (with_reducible first | exact HB.out | apply below_alloc | apply pw_below_drewN | apply below_drew1) | exact HB.out)))); have n2_ := Aside0.mk (below_step (by repeat (first | (with_reducible first | exact HB.out | apply below_alloc | apply pw_below_drewN | apply below_drew1) | exact HB.out)) hb); clear HO_4; clear HB; have HO_4 := n0_; have HO262 := n1_; have HB := n2_; clear n0_ n1_ n2_; (try clear hb); (try clear hb2); (try clear hk); (try clear hi); (try clear ho0)) | ((with_reducible refine gate_callee (f := 15) rfl ?_); refine goesL_ (some 141) rfl rfl Try.func15 (by kernel_rfl) rfl #[.int .i64 t260] rfl (by (try simp only [List.map_toArray, List.map_cons, List.map_nil]); first | done | rfl | (simp only [List.length_drop, List.length_take]; rfl)) ?_; (with_reducible refine (arraslaw19_num.calls t260 t263 _ A48.out).mono ?_); rintro e w' ⟨rfl, ⟨nd, rfl⟩⟩; refine ⟨_, rfl, ?_⟩))
                              go_ret
                              exact ⟨by first | rfl | (simp [errW_none, errW_some] <;> rfl) | (simp [*, errW_none, errW_some] <;> rfl), by repeat (first | (with_reducible first | exact HB.out | apply below_alloc | apply pw_below_drewN | apply below_drew1) | exact HB.out)⟩
              · rw [if_neg c6] at H
                exact absurd H (by simp)
            · rw [if_neg c5] at H
              exact absurd H (by simp)
          · replace c4 := Bool.eq_false_iff.mpr c4
            subst c4
            have H1 : ((arraslaw19_wakes.f kj1).bind fun t234 => (some t234)) = some r := by rw [if_neg (show ¬ (false = true) by decide)] at H; exact H
            clear H
            have H := H1
            clear H1
            replace H := Option.bind_eq_some_iff.mp H
            obtain ⟨t234, A700, H⟩ := H
            replace H : (some t234) = some r := H
            have A70 := Aside0.mk A700
            clear A700
            obtain rfl := Option.some.inj H
            go_wp2_with (first | ((with_reducible refine gate_callee (f := 21) rfl ?_); refine goesL_ (some 163) rfl rfl Try.func21 (by kernel_rfl) rfl #[] rfl (by (try simp only [List.map_toArray, List.map_cons, List.map_nil]); first | done | rfl | (simp only [List.length_drop, List.length_take]; rfl)) ?_; (with_reducible refine (arraslaw19_wakes.calls kj1  t234 _ A70.out).mono ?_); rintro e w71 ⟨rfl, hb⟩; refine ⟨_, rfl, ?_⟩; have n0_ := Aside0.mk (below_step (by repeat (first | (with_reducible first | exact HB.out | apply below_alloc | apply pw_below_drewN | apply below_drew1) | exact HB.out)) hb); clear HB; have HB := n0_; clear n0_; (try clear hb); (try clear hb2); (try clear hk); (try clear hi)))
            go_ret
            exact ⟨by first | rfl | (simp [errW_none, errW_some] <;> rfl) | (simp [*, errW_none, errW_some] <;> rfl), by repeat (first | (with_reducible first | exact HB.out | apply below_alloc | apply pw_below_drewN | apply below_drew1) | exact HB.out)⟩

end Go.Proofs.Ytdilliddflnbnaa.PA
