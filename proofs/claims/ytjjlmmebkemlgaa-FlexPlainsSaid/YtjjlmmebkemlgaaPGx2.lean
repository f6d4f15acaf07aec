-- Written by wprint.py, a program of this session's, over the kit's print.
import Derived.Test.YtjjlmmebkemlgaaPGx0
import Derived.Test.YtjjlmmebkemlgaaPGx1
namespace Go.Proofs.Ytjjlmmebkemlgaa.PG
open Go.RowKit Go.Proofs.YtjjlmmebkemlgaaW.PrintWords Go.Proofs.YtjjlmmebkemlgaaW.PrintLast Go.Proofs.YtjjlmmebkemlgaaW.PrintMore
attribute [local go_sem] max2_int min2_int max_two min_two max_three min_three max_four min_four   -- for this text's walks alone
set_option linter.unusedVariables false
set_option linter.unusedSimpArgs false

/-! ### arraslaw20_FlexPlains: function 12 -/
mutual
def arraslaw20_FlexPlains.l0 : Nat → List (S41) → Int → Option (Bool)
  | 0, _, _ => none
  | k + 1, x0, x3 => if x3 < (x0.length : Int) then (arraslaw20_FlexPlains.j1 k x0 x3 (decide (x3 < 10))) else (arraslaw20_FlexPlains.j1 k x0 x3 false)
def arraslaw20_FlexPlains.j1 : Nat → List (S41) → Int → Bool → Option (Bool)
  | 0, _, _, _ => none
  | k + 1, x0, x3, x17 => if x17 = true then (arraslaw20_FlexPlains.l1 k x0 x3 0) else ((arraslaw20_wakes.f k).bind fun t132 => (some t132))
def arraslaw20_FlexPlains.l1 : Nat → List (S41) → Int → Int → Option (Bool)
  | 0, _, _, _ => none
  | k + 1, x0, x3, x4 => if 0 ≤ x3 then (if x3 < (x0.length : Int) then (if x4 < (((rd_T41 x0 x3).f0).length : Int) then (arraslaw20_FlexPlains.j3 k x0 x3 x4 (decide (x4 < 30))) else (arraslaw20_FlexPlains.j3 k x0 x3 x4 false)) else (none)) else (none)
def arraslaw20_FlexPlains.j3 : Nat → List (S41) → Int → Int → Bool → Option (Bool)
  | 0, _, _, _, _ => none
  | k + 1, x0, x3, x4, x31 => if x31 = true then (if 0 ≤ x3 then (if x3 < (x0.length : Int) then (if 0 ≤ x4 then (if x4 < (((rd_T41 x0 x3).f0).length : Int) then ((arrasref19_Item.f ((rd_T46 ((rd_T41 x0 x3).f0) x4).f0) ((rd_T46 ((rd_T41 x0 x3).f0) x4).f1) ((rd_T46 ((rd_T41 x0 x3).f0) x4).f2) ((rd_T46 ((rd_T41 x0 x3).f0) x4).f3) ((rd_T46 ((rd_T41 x0 x3).f0) x4).f4)).bind fun t137 => (if t137 = true then ((arrasref19_Plain.f ((rd_T46 ((rd_T41 x0 x3).f0) x4).f0) ((rd_T46 ((rd_T41 x0 x3).f0) x4).f1) ((rd_T46 ((rd_T41 x0 x3).f0) x4).f2) ((rd_T46 ((rd_T41 x0 x3).f0) x4).f3) ((rd_T46 ((rd_T41 x0 x3).f0) x4).f4)).bind fun t138 => (arraslaw20_FlexPlains.j4 k x0 x3 x4 0 t138 ((rd_T46 ((rd_T41 x0 x3).f0) x4).f0) ((rd_T46 ((rd_T41 x0 x3).f0) x4).f1) ((rd_T46 ((rd_T41 x0 x3).f0) x4).f2) ((rd_T46 ((rd_T41 x0 x3).f0) x4).f3) ((rd_T46 ((rd_T41 x0 x3).f0) x4).f4))) else (arraslaw20_FlexPlains.j4 k x0 x3 x4 1 0 ((rd_T46 ((rd_T41 x0 x3).f0) x4).f0) ((rd_T46 ((rd_T41 x0 x3).f0) x4).f1) ((rd_T46 ((rd_T41 x0 x3).f0) x4).f2) ((rd_T46 ((rd_T41 x0 x3).f0) x4).f3) ((rd_T46 ((rd_T41 x0 x3).f0) x4).f4)))) else (none)) else (none)) else (none)) else (none)) else (arraslaw20_FlexPlains.l0 k x0 (wrap64 (x3 + 1)))
def arraslaw20_FlexPlains.j4 : Nat → List (S41) → Int → Int → Int → Int → Int → Int → Int → Int → Int → Option (Bool)
  | 0, _, _, _, _, _, _, _, _, _, _ => none
  | k + 1, x0, x3, x4, x6, x7, x137000, x137001, x137002, x137003, x137004 => (flex_Plain.f x137000 x137001 x137002 x137003 x137004).bind fun bt139 => ((flex_Check.f x137000 x137001 x137002 x137003 x137004).bind fun t141 => ((arraslaw20_num.f t141).bind fun t142 => (if t142 = x6 then ((arraslaw20_num.f bt139.2).bind fun t143 => (if t143 = x6 then (if bt139.1 = x7 then (arraslaw20_FlexPlains.l1 k x0 x3 (wrap64 (x4 + 1))) else (some false)) else (some false))) else (some false))))
end
def arraslaw20_FlexPlains.f (k : Nat) (l0 : List (S41)) : Option (Bool) := arraslaw20_FlexPlains.l0 k l0 0
theorem arraslaw20_FlexPlains.mono_l : ∀ k, (∀ y0 y1, LeO (arraslaw20_FlexPlains.l0 k y0 y1) (arraslaw20_FlexPlains.l0 (k + 1) y0 y1)) ∧ (∀ y0 y1 y2, LeO (arraslaw20_FlexPlains.j1 k y0 y1 y2) (arraslaw20_FlexPlains.j1 (k + 1) y0 y1 y2)) ∧ (∀ y0 y1 y2, LeO (arraslaw20_FlexPlains.l1 k y0 y1 y2) (arraslaw20_FlexPlains.l1 (k + 1) y0 y1 y2)) ∧ (∀ y0 y1 y2 y3, LeO (arraslaw20_FlexPlains.j3 k y0 y1 y2 y3) (arraslaw20_FlexPlains.j3 (k + 1) y0 y1 y2 y3)) ∧ (∀ y0 y1 y2 y3 y4 y5 y6 y7 y8 y9, LeO (arraslaw20_FlexPlains.j4 k y0 y1 y2 y3 y4 y5 y6 y7 y8 y9) (arraslaw20_FlexPlains.j4 (k + 1) y0 y1 y2 y3 y4 y5 y6 y7 y8 y9))
  | 0 => ⟨fun _ _ r h => by simp [arraslaw20_FlexPlains.l0] at h, fun _ _ _ r h => by simp [arraslaw20_FlexPlains.j1] at h, fun _ _ _ r h => by simp [arraslaw20_FlexPlains.l1] at h, fun _ _ _ _ r h => by simp [arraslaw20_FlexPlains.j3] at h, fun _ _ _ _ _ _ _ _ _ _ r h => by simp [arraslaw20_FlexPlains.j4] at h⟩
  | k + 1 => by
    obtain ⟨ih0, ih1, ih2, ih3, ih4⟩ := arraslaw20_FlexPlains.mono_l k
    refine ⟨?_, ?_, ?_, ?_, ?_⟩
    · intro y0 y1
      unfold arraslaw20_FlexPlains.l0
      repeat' first
      | (with_reducible exact ih0 _ _)
      | (with_reducible exact ih1 _ _ _)
      | (with_reducible exact ih2 _ _ _)
      | (with_reducible exact ih3 _ _ _ _)
      | (with_reducible exact ih4 _ _ _ _ _ _ _ _ _ _)
      | (with_reducible exact arraslaw20_wakes.mono _)
      | (with_reducible exact LeO.refl _)
      | (with_reducible exact LeO.none _)
      | (with_reducible refine LeO.ite ?_ ?_)
      | (with_reducible refine LeO.bind ?_ (fun _ => ?_))
      | exact ih0 _ _
      | exact ih1 _ _ _
      | exact ih2 _ _ _
      | exact ih3 _ _ _ _
      | exact ih4 _ _ _ _ _ _ _ _ _ _
      | exact arraslaw20_wakes.mono _
      | exact LeO.none _
      | refine LeO.ite ?_ ?_
      | refine LeO.bind ?_ (fun _ => ?_)
    · intro y0 y1 y2
      unfold arraslaw20_FlexPlains.j1
      repeat' first
      | (with_reducible exact ih0 _ _)
      | (with_reducible exact ih1 _ _ _)
      | (with_reducible exact ih2 _ _ _)
      | (with_reducible exact ih3 _ _ _ _)
      | (with_reducible exact ih4 _ _ _ _ _ _ _ _ _ _)
      | (with_reducible exact arraslaw20_wakes.mono _)
      | (with_reducible exact LeO.refl _)
      | (with_reducible exact LeO.none _)
      | (with_reducible refine LeO.ite ?_ ?_)
      | (with_reducible refine LeO.bind ?_ (fun _ => ?_))
      | exact ih0 _ _
      | exact ih1 _ _ _
      | exact ih2 _ _ _
      | exact ih3 _ _ _ _
      | exact ih4 _ _ _ _ _ _ _ _ _ _
      | exact arraslaw20_wakes.mono _
      | exact LeO.none _
      | refine LeO.ite ?_ ?_
      | refine LeO.bind ?_ (fun _ => ?_)
    · intro y0 y1 y2
      unfold arraslaw20_FlexPlains.l1
      repeat' first
      | (with_reducible exact ih0 _ _)
      | (with_reducible exact ih1 _ _ _)
      | (with_reducible exact ih2 _ _ _)
      | (with_reducible exact ih3 _ _ _ _)
      | (with_reducible exact ih4 _ _ _ _ _ _ _ _ _ _)
      | (with_reducible exact arraslaw20_wakes.mono _)
      | (with_reducible exact LeO.refl _)
      | (with_reducible exact LeO.none _)
      | (with_reducible refine LeO.ite ?_ ?_)
      | (with_reducible refine LeO.bind ?_ (fun _ => ?_))
      | exact ih0 _ _
      | exact ih1 _ _ _
      | exact ih2 _ _ _
      | exact ih3 _ _ _ _
      | exact ih4 _ _ _ _ _ _ _ _ _ _
      | exact arraslaw20_wakes.mono _
      | exact LeO.none _
      | refine LeO.ite ?_ ?_
      | refine LeO.bind ?_ (fun _ => ?_)
    · intro y0 y1 y2 y3
      unfold arraslaw20_FlexPlains.j3
      repeat' first
      | (with_reducible exact ih0 _ _)
      | (with_reducible exact ih1 _ _ _)
      | (with_reducible exact ih2 _ _ _)
      | (with_reducible exact ih3 _ _ _ _)
      | (with_reducible exact ih4 _ _ _ _ _ _ _ _ _ _)
      | (with_reducible exact arraslaw20_wakes.mono _)
      | (with_reducible exact LeO.refl _)
      | (with_reducible exact LeO.none _)
      | (with_reducible refine LeO.ite ?_ ?_)
      | (with_reducible refine LeO.bind ?_ (fun _ => ?_))
      | exact ih0 _ _
      | exact ih1 _ _ _
      | exact ih2 _ _ _
      | exact ih3 _ _ _ _
      | exact ih4 _ _ _ _ _ _ _ _ _ _
      | exact arraslaw20_wakes.mono _
      | exact LeO.none _
      | refine LeO.ite ?_ ?_
      | refine LeO.bind ?_ (fun _ => ?_)
    · intro y0 y1 y2 y3 y4 y5 y6 y7 y8 y9
      unfold arraslaw20_FlexPlains.j4
      repeat' first
      | (with_reducible exact ih0 _ _)
      | (with_reducible exact ih1 _ _ _)
      | (with_reducible exact ih2 _ _ _)
      | (with_reducible exact ih3 _ _ _ _)
      | (with_reducible exact ih4 _ _ _ _ _ _ _ _ _ _)
      | (with_reducible exact arraslaw20_wakes.mono _)
      | (with_reducible exact LeO.refl _)
      | (with_reducible exact LeO.none _)
      | (with_reducible refine LeO.ite ?_ ?_)
      | (with_reducible refine LeO.bind ?_ (fun _ => ?_))
      | exact ih0 _ _
      | exact ih1 _ _ _
      | exact ih2 _ _ _
      | exact ih3 _ _ _ _
      | exact ih4 _ _ _ _ _ _ _ _ _ _
      | exact arraslaw20_wakes.mono _
      | exact LeO.none _
      | refine LeO.ite ?_ ?_
      | refine LeO.bind ?_ (fun _ => ?_)
theorem arraslaw20_FlexPlains.mono : ∀ a0 k, LeO (arraslaw20_FlexPlains.f k a0) (arraslaw20_FlexPlains.f (k + 1) a0) := by
  intro a0 k
  obtain ⟨ih0, ih1, ih2, ih3, ih4⟩ := arraslaw20_FlexPlains.mono_l k
  unfold arraslaw20_FlexPlains.f
  repeat' first
      | (with_reducible exact ih0 _ _)
      | (with_reducible exact ih1 _ _ _)
      | (with_reducible exact ih2 _ _ _)
      | (with_reducible exact ih3 _ _ _ _)
      | (with_reducible exact ih4 _ _ _ _ _ _ _ _ _ _)
      | (with_reducible exact arraslaw20_wakes.mono _)
      | (with_reducible exact LeO.refl _)
      | (with_reducible exact LeO.none _)
      | (with_reducible refine LeO.ite ?_ ?_)
      | (with_reducible refine LeO.bind ?_ (fun _ => ?_))
      | exact ih0 _ _
      | exact ih1 _ _ _
      | exact ih2 _ _ _
      | exact ih3 _ _ _ _
      | exact ih4 _ _ _ _ _ _ _ _ _ _
      | exact arraslaw20_wakes.mono _
      | exact LeO.none _
      | refine LeO.ite ?_ ?_
      | refine LeO.bind ?_ (fun _ => ?_)
set_option maxHeartbeats 8000000 in
set_option maxRecDepth 100000 in
theorem arraslaw20_FlexPlains.calls (k : Nat) (A0 : Option Addr) (c0 : Nat) (l0 : List (S41)) (r : Bool) (w : World) (hr0 : Kd.C k41 w A0 l0.length l0) (hc0 : l0.length ≤ c0) (h : arraslaw20_FlexPlains.f k l0 = some r) :
    Calls Try.prog 12 #[.slice A0 l0.length c0] w fun e w' => e = .returned (.bool r) ∧ Below w.heap.size w w' := by
  have hu46 := Try.underlying46
  have HR0 := Aside0.mk hr0
  have HC0 := Aside0.mk hc0
  clear hr0 hc0
  have HB := Aside0.mk (Below.refl w.heap.size w)
  have H : (arraslaw20_FlexPlains.l0 k l0 0) = some r := h
  clear h
  have H' := Aside0.mk H
  clear H
  go_enter Try.func12, Try.ntmps12
  go_wp2
  go_loopg [3] k (fun kq v3 w' => ∃ (x3_1 : Int), v3 = .int .i64 x3_1 ∧ Aside0 (arraslaw20_FlexPlains.l0 kq l0 x3_1 = some r) ∧ Aside0 (kq ≤ k) ∧ Aside0 (Below w.heap.size w w'))
  case atStart => exact ⟨(0), (by first | rfl | (simp; done) | (simp [*]; done)), H', ⟨Nat.le_refl _⟩, ⟨by repeat (first | (with_reducible first | exact HB.out | apply below_alloc | apply pw_below_drewN | apply below_drew1) | exact HB.out)⟩⟩
  case round =>
    clear H'
    try clear c1
    obtain ⟨x3_1, rfl, HA, HK1, HB⟩ := hrel
    cases gk with
    | zero => exact absurd HA.out (by simp [arraslaw20_FlexPlains.l0])
    | succ k1 =>
      have H := HA.out
      clear HA
      simp only [arraslaw20_FlexPlains.l0] at H
      have HC2 := Aside0.mk H
      clear H
      go_upto_region 2 with (fail)
      go_cut [17] (fun v17 wc => ∃ (kq : Nat) (x17_1 : Bool), v17 = .bool x17_1 ∧ Aside0 (arraslaw20_FlexPlains.j1 kq l0 x3_1 x17_1 = some r) ∧ Aside0 (kq ≤ k1) ∧ Aside0 (Below w.heap.size w wc))
      case first =>
        have H := HC2.out
        clear HC2
        by_cases c3 : x3_1 < (l0.length : Int)
        · rw [if_pos c3] at H
          have c3b0 : decide (x3_1 < (l0.length : Int)) = true := decide_eq_true c3
          clear c3
          (first | rw [c3b0] | (simp only [i64_w, i32_w]; rw [c3b0]) | skip)
          have H' := Aside0.mk H
          clear H
          go_wp2
          go_meet
          case rel => exact ⟨_, (decide (x3_1 < 10)), (by first | rfl | (simp; done) | (simp [*]; done)), H', ⟨by have := HK1.out; first | omega | exact Nat.le_refl _⟩, ⟨by repeat (first | (with_reducible first | exact HB.out | apply below_alloc | apply pw_below_drewN | apply below_drew1) | exact HB.out)⟩⟩
        · rw [if_neg c3] at H
          have c3b0 : decide (x3_1 < (l0.length : Int)) = false := decide_eq_false c3
          clear c3
          (first | rw [c3b0] | (simp only [i64_w, i32_w]; rw [c3b0]) | skip)
          have H' := Aside0.mk H
          clear H
          go_wp2
          go_meet
          case rel => exact ⟨_, (false), (by first | rfl | (simp; done) | (simp [*]; done)), H', ⟨by have := HK1.out; first | omega | exact Nat.le_refl _⟩, ⟨by repeat (first | (with_reducible first | exact HB.out | apply below_alloc | apply pw_below_drewN | apply below_drew1) | exact HB.out)⟩⟩
      case rest =>
        clear HC2
        try clear c1
        try clear p2
        try clear c3
        try clear c3b0
        obtain ⟨kq, x17_1, rfl, HA, HJ1, HB⟩ := hcut
        cases kq with
        | zero => exact absurd HA.out (by simp [arraslaw20_FlexPlains.j1])
        | succ kj1 =>
          have H := HA.out
          clear HA
          simp only [arraslaw20_FlexPlains.j1] at H
          by_cases c4 : x17_1 = true
          · subst c4
            have H1 : (arraslaw20_FlexPlains.l1 kj1 l0 x3_1 0) = some r := by rw [if_pos rfl] at H; exact H
            clear H
            have H := H1
            clear H1
            have H' := Aside0.mk H
            clear H
            go_wp2
            go_loopg [4] kj1 (fun kq v4 w' => ∃ (x4_3 : Int), v4 = .int .i64 x4_3 ∧ Aside0 (arraslaw20_FlexPlains.l1 kq l0 x3_1 x4_3 = some r) ∧ Aside0 (kq ≤ kj1) ∧ Aside0 (Below w.heap.size w w'))
            case atStart => exact ⟨(0), (by first | rfl | (simp; done) | (simp [*]; done)), H', ⟨Nat.le_refl _⟩, ⟨by repeat (first | (with_reducible first | exact HB.out | apply below_alloc | apply pw_below_drewN | apply below_drew1) | exact HB.out)⟩⟩
            case round =>
              clear H'
              try clear c1
              try clear p2
              try clear c3
              try clear c3b0
              try clear c4
              try clear p2
              obtain ⟨x4_3, rfl, HA, HK3, HB⟩ := hrel
              cases gk with
              | zero => exact absurd HA.out (by simp [arraslaw20_FlexPlains.l1])
              | succ k3 =>
                have H := HA.out
                clear HA
                simp only [arraslaw20_FlexPlains.l1] at H
                have HC5 := Aside0.mk H
                clear H
                go_upto_region 5 with (fail)
                go_cut [31] (fun v31 wc => ∃ (kq : Nat) (x31_4 : Bool), v31 = .bool x31_4 ∧ Aside0 (arraslaw20_FlexPlains.j3 kq l0 x3_1 x4_3 x31_4 = some r) ∧ Aside0 (kq ≤ k3) ∧ Aside0 (Below w.heap.size w wc))
                case first =>
                  have H := HC5.out
                  clear HC5
                  by_cases c6 : 0 ≤ x3_1
                  · rw [if_pos c6] at H
                    have c6b0 : decide (0 ≤ x3_1) = true := decide_eq_true c6
                    clear c6
                    (first | rw [c6b0] | (simp only [i64_w, i32_w]; rw [c6b0]) | skip)
                    by_cases c7 : x3_1 < (l0.length : Int)
                    · rw [if_pos c7] at H
                      have c7b0 : decide (x3_1 < (l0.length : Int)) = true := decide_eq_true c7
                      clear c7
                      by_cases c8 : x4_3 < (((rd_T41 l0 x3_1).f0).length : Int)
                      · rw [if_pos c8] at H
                        have c8b0 : decide (x4_3 < (((rd_T41 l0 x3_1).f0).length : Int)) = true := decide_eq_true c8
                        clear c8
                        have H' := Aside0.mk H
                        clear H
                        have p133 : 0 ≤ (x3_1 : Int) := of_decide_eq_true (by first | (with_reducible assumption) | assumption)
                        have q133 : x3_1 < (l0.length : Int) := of_decide_eq_true (by first | (with_reducible assumption) | assumption)
                        obtain ⟨ad133, A133_0, c133_0, e133, hx133_0, hx133_1, hx133_2, hl133_0, hi133_0⟩ := at_T41 HR0.out x3_1 p133 q133
                        cases e133
                        replace hx133_0 := (HB.out.cell (World.block_lt_of_cell? w _ hx133_0)).trans hx133_0
                        replace hx133_1 := (HB.out.cell (World.block_lt_of_cell? w _ hx133_1)).trans hx133_1
                        replace hx133_2 := (HB.out.cell (World.block_lt_of_cell? w _ hx133_2)).trans hx133_2
                        have HR133_0 := Aside0.mk hi133_0
                        have HC133_0 := Aside0.mk hl133_0
                        clear hi133_0 hl133_0
                        replace p133 := eq_true p133
                        replace q133 := eq_true q133
                        go_wp2
                        go_meet
                        case rel => exact ⟨_, (decide (x4_3 < 30)), (by first | rfl | (simp; done) | (simp [*]; done)), H', ⟨by have := HK1.out; have := HJ1.out; have := HK3.out; first | omega | exact Nat.le_refl _⟩, ⟨by repeat (first | (with_reducible first | exact HB.out | apply below_alloc | apply pw_below_drewN | apply below_drew1) | exact HB.out)⟩⟩
                      · rw [if_neg c8] at H
                        have c8b0 : decide (x4_3 < (((rd_T41 l0 x3_1).f0).length : Int)) = false := decide_eq_false c8
                        clear c8
                        have H' := Aside0.mk H
                        clear H
                        have p133 : 0 ≤ (x3_1 : Int) := of_decide_eq_true (by first | (with_reducible assumption) | assumption)
                        have q133 : x3_1 < (l0.length : Int) := of_decide_eq_true (by first | (with_reducible assumption) | assumption)
                        obtain ⟨ad133, A133_0, c133_0, e133, hx133_0, hx133_1, hx133_2, hl133_0, hi133_0⟩ := at_T41 HR0.out x3_1 p133 q133
                        cases e133
                        replace hx133_0 := (HB.out.cell (World.block_lt_of_cell? w _ hx133_0)).trans hx133_0
                        replace hx133_1 := (HB.out.cell (World.block_lt_of_cell? w _ hx133_1)).trans hx133_1
                        replace hx133_2 := (HB.out.cell (World.block_lt_of_cell? w _ hx133_2)).trans hx133_2
                        have HR133_0 := Aside0.mk hi133_0
                        have HC133_0 := Aside0.mk hl133_0
                        clear hi133_0 hl133_0
                        replace p133 := eq_true p133
                        replace q133 := eq_true q133
                        go_wp2
                        go_meet
                        case rel => exact ⟨_, (false), (by first | rfl | (simp; done) | (simp [*]; done)), H', ⟨by have := HK1.out; have := HJ1.out; have := HK3.out; first | omega | exact Nat.le_refl _⟩, ⟨by repeat (first | (with_reducible first | exact HB.out | apply below_alloc | apply pw_below_drewN | apply below_drew1) | exact HB.out)⟩⟩
                    · rw [if_neg c7] at H
                      exact absurd H (by simp)
                  · rw [if_neg c6] at H
                    exact absurd H (by simp)
                case rest =>
                  clear HC5
                  try clear c1
                  try clear p1
                  try clear q1
                  try clear hx1
                  try clear p2
                  try clear c3
                  try clear c3b0
                  try clear c4
                  try clear c6
                  try clear c6b0
                  try clear c7
                  try clear c7b0
                  try clear c8
                  try clear c8b0
                  try clear hx133_0
                  try clear hx133_1
                  try clear hx133_2
                  try clear p133
                  try clear p2
                  try clear q133
                  obtain ⟨kq, x31_4, rfl, HA, HJ4, HB⟩ := hcut
                  cases kq with
                  | zero => exact absurd HA.out (by simp [arraslaw20_FlexPlains.j3])
                  | succ kj4 =>
                    have H := HA.out
                    clear HA
                    simp only [arraslaw20_FlexPlains.j3] at H
                    by_cases c9 : x31_4 = true
                    · subst c9
                      have H1 : (if 0 ≤ x3_1 then (if x3_1 < (l0.length : Int) then (if 0 ≤ x4_3 then (if x4_3 < (((rd_T41 l0 x3_1).f0).length : Int) then ((arrasref19_Item.f ((rd_T46 ((rd_T41 l0 x3_1).f0) x4_3).f0) ((rd_T46 ((rd_T41 l0 x3_1).f0) x4_3).f1) ((rd_T46 ((rd_T41 l0 x3_1).f0) x4_3).f2) ((rd_T46 ((rd_T41 l0 x3_1).f0) x4_3).f3) ((rd_T46 ((rd_T41 l0 x3_1).f0) x4_3).f4)).bind fun t137 => (if t137 = true then ((arrasref19_Plain.f ((rd_T46 ((rd_T41 l0 x3_1).f0) x4_3).f0) ((rd_T46 ((rd_T41 l0 x3_1).f0) x4_3).f1) ((rd_T46 ((rd_T41 l0 x3_1).f0) x4_3).f2) ((rd_T46 ((rd_T41 l0 x3_1).f0) x4_3).f3) ((rd_T46 ((rd_T41 l0 x3_1).f0) x4_3).f4)).bind fun t138 => (arraslaw20_FlexPlains.j4 kj4 l0 x3_1 x4_3 0 t138 ((rd_T46 ((rd_T41 l0 x3_1).f0) x4_3).f0) ((rd_T46 ((rd_T41 l0 x3_1).f0) x4_3).f1) ((rd_T46 ((rd_T41 l0 x3_1).f0) x4_3).f2) ((rd_T46 ((rd_T41 l0 x3_1).f0) x4_3).f3) ((rd_T46 ((rd_T41 l0 x3_1).f0) x4_3).f4))) else (arraslaw20_FlexPlains.j4 kj4 l0 x3_1 x4_3 1 0 ((rd_T46 ((rd_T41 l0 x3_1).f0) x4_3).f0) ((rd_T46 ((rd_T41 l0 x3_1).f0) x4_3).f1) ((rd_T46 ((rd_T41 l0 x3_1).f0) x4_3).f2) ((rd_T46 ((rd_T41 l0 x3_1).f0) x4_3).f3) ((rd_T46 ((rd_T41 l0 x3_1).f0) x4_3).f4)))) else (none)) else (none)) else (none)) else (none)) = some r := by rw [if_pos rfl] at H; exact H
                      clear H
                      have H := H1
                      clear H1
                      by_cases c10 : 0 ≤ x3_1
                      · rw [if_pos c10] at H
                        have c10b0 : decide (0 ≤ x3_1) = true := decide_eq_true c10
                        clear c10
                        by_cases c11 : x3_1 < (l0.length : Int)
                        · rw [if_pos c11] at H
                          have c11b0 : decide (x3_1 < (l0.length : Int)) = true := decide_eq_true c11
                          clear c11
                          by_cases c12 : 0 ≤ x4_3
                          · rw [if_pos c12] at H
                            have c12b0 : decide (0 ≤ x4_3) = true := decide_eq_true c12
                            clear c12
                            by_cases c13 : x4_3 < (((rd_T41 l0 x3_1).f0).length : Int)
                            · rw [if_pos c13] at H
                              have c13b0 : decide (x4_3 < (((rd_T41 l0 x3_1).f0).length : Int)) = true := decide_eq_true c13
                              clear c13
                              replace H := Option.bind_eq_some_iff.mp H
                              obtain ⟨t137, A140, H⟩ := H
                              replace H : (if t137 = true then ((arrasref19_Plain.f ((rd_T46 ((rd_T41 l0 x3_1).f0) x4_3).f0) ((rd_T46 ((rd_T41 l0 x3_1).f0) x4_3).f1) ((rd_T46 ((rd_T41 l0 x3_1).f0) x4_3).f2) ((rd_T46 ((rd_T41 l0 x3_1).f0) x4_3).f3) ((rd_T46 ((rd_T41 l0 x3_1).f0) x4_3).f4)).bind fun t138 => (arraslaw20_FlexPlains.j4 kj4 l0 x3_1 x4_3 0 t138 ((rd_T46 ((rd_T41 l0 x3_1).f0) x4_3).f0) ((rd_T46 ((rd_T41 l0 x3_1).f0) x4_3).f1) ((rd_T46 ((rd_T41 l0 x3_1).f0) x4_3).f2) ((rd_T46 ((rd_T41 l0 x3_1).f0) x4_3).f3) ((rd_T46 ((rd_T41 l0 x3_1).f0) x4_3).f4))) else (arraslaw20_FlexPlains.j4 kj4 l0 x3_1 x4_3 1 0 ((rd_T46 ((rd_T41 l0 x3_1).f0) x4_3).f0) ((rd_T46 ((rd_T41 l0 x3_1).f0) x4_3).f1) ((rd_T46 ((rd_T41 l0 x3_1).f0) x4_3).f2) ((rd_T46 ((rd_T41 l0 x3_1).f0) x4_3).f3) ((rd_T46 ((rd_T41 l0 x3_1).f0) x4_3).f4))) = some r := H
                              have A14 := Aside0.mk A140
                              clear A140
                              have HC15 := Aside0.mk H
                              clear H
                              have p134 : 0 ≤ (x3_1 : Int) := of_decide_eq_true (by first | (with_reducible assumption) | assumption)
                              have q134 : x3_1 < (l0.length : Int) := of_decide_eq_true (by first | (with_reducible assumption) | assumption)
                              obtain ⟨ad134, A134_0, c134_0, e134, hx134_0, hx134_1, hx134_2, hl134_0, hi134_0⟩ := at_T41 HR0.out x3_1 p134 q134
                              cases e134
                              replace hx134_0 := (HB.out.cell (World.block_lt_of_cell? w _ hx134_0)).trans hx134_0
                              replace hx134_1 := (HB.out.cell (World.block_lt_of_cell? w _ hx134_1)).trans hx134_1
                              replace hx134_2 := (HB.out.cell (World.block_lt_of_cell? w _ hx134_2)).trans hx134_2
                              have HR134_0 := Aside0.mk hi134_0
                              have HC134_0 := Aside0.mk hl134_0
                              clear hi134_0 hl134_0
                              replace p134 := eq_true p134
                              replace q134 := eq_true q134
                              have p135 : 0 ≤ (x4_3 : Int) := of_decide_eq_true (by first | (with_reducible assumption) | assumption)
                              have q135 : x4_3 < (((rd_T41 l0 x3_1).f0).length : Int) := of_decide_eq_true (by first | (with_reducible assumption) | assumption)
                              obtain ⟨ad135, e135, hx135_0, hx135_1, hx135_2, hx135_3, hx135_4⟩ := at_T46 HR134_0.out x4_3 p135 q135
                              cases e135
                              replace hx135_0 := (HB.out.cell (World.block_lt_of_cell? w _ hx135_0)).trans hx135_0
                              replace hx135_1 := (HB.out.cell (World.block_lt_of_cell? w _ hx135_1)).trans hx135_1
                              replace hx135_2 := (HB.out.cell (World.block_lt_of_cell? w _ hx135_2)).trans hx135_2
                              replace hx135_3 := (HB.out.cell (World.block_lt_of_cell? w _ hx135_3)).trans hx135_3
                              replace hx135_4 := (HB.out.cell (World.block_lt_of_cell? w _ hx135_4)).trans hx135_4
                              replace p135 := eq_true p135
                              replace q135 := eq_true q135
                              go_upto_if 43 with (first | ((with_reducible refine gate_dst (N := 5) rfl ?_); refine box_event ?hg (N := 5) ?hd (cs := #[.int .i64 0, .int .i64 0, .int .i64 0, .int .i64 0, .int .i64 0]) (t := 46) ?hr ?_; (case hd => rfl); (case hg => rfl); (case hr => first | (go_simp; done) | (go_simp; rfl)); intro gb136 hg w16 hbox hb; have n0_ := Aside0.mk (below_step (by repeat (first | (with_reducible first | exact HB.out | apply below_alloc | apply pw_below_drewN | apply below_drew1) | exact HB.out)) hb); have n1_ := Aside0.mk (hbox); have n2_ := Aside0.mk ((by rw [hg]; exact (below_size (by repeat (first | (with_reducible first | exact HB.out | apply below_alloc | apply pw_below_drewN | apply below_drew1) | exact HB.out))) : w.heap.size ≤ gb136)); have n3_ := Aside0.mk ((by rw [hg]; exact (below_size (by repeat (first | (with_reducible first | exact HB.out | apply below_alloc | apply pw_below_drewN | apply below_drew1) | exact HB.out))) : w.heap.size ≤ gb136)); clear HB; have HB := n0_; have BK136 := n1_; have GW136 := n2_; have GE136 := n3_; clear n0_ n1_ n2_ n3_; clear hb hbox hg; have hcz17_0 : w16.cell? ⟨gb136, 0, none⟩ = some (.int .i64 0) := (blk_cell BK136.out 0).trans rfl; have hcz17_1 : w16.cell? ⟨gb136, 1, none⟩ = some (.int .i64 0) := (blk_cell BK136.out 1).trans rfl; have hcz17_2 : w16.cell? ⟨gb136, 2, none⟩ = some (.int .i64 0) := (blk_cell BK136.out 2).trans rfl; have hcz17_3 : w16.cell? ⟨gb136, 3, none⟩ = some (.int .i64 0) := (blk_cell BK136.out 3).trans rfl; have hcz17_4 : w16.cell? ⟨gb136, 4, none⟩ = some (.int .i64 0) := (blk_cell BK136.out 4).trans rfl; have hfz17_0 := blk_frozen BK136.out 0; have hfz17_1 := blk_frozen BK136.out 1; have hfz17_2 := blk_frozen BK136.out 2; have hfz17_3 := blk_frozen BK136.out 3; have hfz17_4 := blk_frozen BK136.out 4) | ((with_reducible refine gate_callee (f := 30) rfl ?_); refine goesL_ (some 43) rfl rfl Try.func30 (by kernel_rfl) rfl #[.agg #[.int .i64 ((rd_T46 ((rd_T41 l0 x3_1).f0) x4_3).f0), .int .i64 ((rd_T46 ((rd_T41 l0 x3_1).f0) x4_3).f1), .int .i64 ((rd_T46 ((rd_T41 l0 x3_1).f0) x4_3).f2), .int .i64 ((rd_T46 ((rd_T41 l0 x3_1).f0) x4_3).f3), .int .i64 ((rd_T46 ((rd_T41 l0 x3_1).f0) x4_3).f4)]] rfl (by (try simp only [List.map_toArray, List.map_cons, List.map_nil]); first | done | rfl | (simp only [List.length_drop, List.length_take]; rfl)) ?_; (with_reducible refine (arrasref19_Item.calls ((rd_T46 ((rd_T41 l0 x3_1).f0) x4_3).f0) ((rd_T46 ((rd_T41 l0 x3_1).f0) x4_3).f1) ((rd_T46 ((rd_T41 l0 x3_1).f0) x4_3).f2) ((rd_T46 ((rd_T41 l0 x3_1).f0) x4_3).f3) ((rd_T46 ((rd_T41 l0 x3_1).f0) x4_3).f4) t137 _ A14.out).mono ?_); rintro e w18 ⟨rfl, hb⟩; refine ⟨_, rfl, ?_⟩; have n0_ := Aside0.mk (blk_below (g := gb136) (o := .cells #[.int .i64 ((rd_T46 ((rd_T41 l0 x3_1).f0) x4_3).f0), .int .i64 ((rd_T46 ((rd_T41 l0 x3_1).f0) x4_3).f1), .int .i64 ((rd_T46 ((rd_T41 l0 x3_1).f0) x4_3).f2), .int .i64 ((rd_T46 ((rd_T41 l0 x3_1).f0) x4_3).f3), .int .i64 ((rd_T46 ((rd_T41 l0 x3_1).f0) x4_3).f4)] 46 (0, 0)) (by (with_reducible repeat (first | refine blk_drewN ?_ _ | refine blk_drew ?_ | refine blk_alloc ?_ _)); refine blk_put (cs := #[.int .i64 ((rd_T46 ((rd_T41 l0 x3_1).f0) x4_3).f0), .int .i64 ((rd_T46 ((rd_T41 l0 x3_1).f0) x4_3).f1), .int .i64 ((rd_T46 ((rd_T41 l0 x3_1).f0) x4_3).f2), .int .i64 ((rd_T46 ((rd_T41 l0 x3_1).f0) x4_3).f3), .int .i64 0]) ?_ 4 _ rfl; (with_reducible repeat (first | refine blk_drewN ?_ _ | refine blk_drew ?_ | refine blk_alloc ?_ _)); refine blk_put (cs := #[.int .i64 ((rd_T46 ((rd_T41 l0 x3_1).f0) x4_3).f0), .int .i64 ((rd_T46 ((rd_T41 l0 x3_1).f0) x4_3).f1), .int .i64 ((rd_T46 ((rd_T41 l0 x3_1).f0) x4_3).f2), .int .i64 0, .int .i64 0]) ?_ 3 _ rfl; (with_reducible repeat (first | refine blk_drewN ?_ _ | refine blk_drew ?_ | refine blk_alloc ?_ _)); refine blk_put (cs := #[.int .i64 ((rd_T46 ((rd_T41 l0 x3_1).f0) x4_3).f0), .int .i64 ((rd_T46 ((rd_T41 l0 x3_1).f0) x4_3).f1), .int .i64 0, .int .i64 0, .int .i64 0]) ?_ 2 _ rfl; (with_reducible repeat (first | refine blk_drewN ?_ _ | refine blk_drew ?_ | refine blk_alloc ?_ _)); refine blk_put (cs := #[.int .i64 ((rd_T46 ((rd_T41 l0 x3_1).f0) x4_3).f0), .int .i64 0, .int .i64 0, .int .i64 0, .int .i64 0]) ?_ 1 _ rfl; (with_reducible repeat (first | refine blk_drewN ?_ _ | refine blk_drew ?_ | refine blk_alloc ?_ _)); refine blk_put (cs := #[.int .i64 0, .int .i64 0, .int .i64 0, .int .i64 0, .int .i64 0]) ?_ 0 _ rfl; (with_reducible repeat (first | refine blk_drewN ?_ _ | refine blk_drew ?_ | refine blk_alloc ?_ _)); exact BK136.out) hb); have n1_ := Aside0.mk (below_step (by repeat (first | (with_reducible first | exact HB.out | apply below_alloc | apply pw_below_drewN | apply below_drew1 | refine below_set ?_ GE136.out) | exact HB.out)) hb); clear BK136; clear HB; have BK136 := n0_; have HB := n1_; clear n0_ n1_; (try clear hb); (try clear hb2); (try clear hk); (try clear hi)))
                              (try simp only [Act.put, List.setIfInBounds_toArray, List.set_cons_zero, List.set_cons_succ])
                              go_cut [6, 7] (fun v6 v7 wc => ∃ (kq : Nat) (x6_14 : Int) (x7_14 : Int), v6 = .int .i64 x6_14 ∧ v7 = .int .i64 x7_14 ∧ Aside0 (arraslaw20_FlexPlains.j4 kq l0 x3_1 x4_3 x6_14 x7_14 ((rd_T46 ((rd_T41 l0 x3_1).f0) x4_3).f0) ((rd_T46 ((rd_T41 l0 x3_1).f0) x4_3).f1) ((rd_T46 ((rd_T41 l0 x3_1).f0) x4_3).f2) ((rd_T46 ((rd_T41 l0 x3_1).f0) x4_3).f3) ((rd_T46 ((rd_T41 l0 x3_1).f0) x4_3).f4) = some r) ∧ Aside0 (kq ≤ kj4) ∧ Aside0 (wc.heap[gb136]? = some (.cells #[.int .i64 ((rd_T46 ((rd_T41 l0 x3_1).f0) x4_3).f0), .int .i64 ((rd_T46 ((rd_T41 l0 x3_1).f0) x4_3).f1), .int .i64 ((rd_T46 ((rd_T41 l0 x3_1).f0) x4_3).f2), .int .i64 ((rd_T46 ((rd_T41 l0 x3_1).f0) x4_3).f3), .int .i64 ((rd_T46 ((rd_T41 l0 x3_1).f0) x4_3).f4)] 46 (0, 0))) ∧ Aside0 (Below w.heap.size w wc))
                              case first =>
                                have H := HC15.out
                                clear HC15
                                by_cases c19 : t137 = true
                                · subst c19
                                  have H1 : ((arrasref19_Plain.f ((rd_T46 ((rd_T41 l0 x3_1).f0) x4_3).f0) ((rd_T46 ((rd_T41 l0 x3_1).f0) x4_3).f1) ((rd_T46 ((rd_T41 l0 x3_1).f0) x4_3).f2) ((rd_T46 ((rd_T41 l0 x3_1).f0) x4_3).f3) ((rd_T46 ((rd_T41 l0 x3_1).f0) x4_3).f4)).bind fun t138 => (arraslaw20_FlexPlains.j4 kj4 l0 x3_1 x4_3 0 t138 ((rd_T46 ((rd_T41 l0 x3_1).f0) x4_3).f0) ((rd_T46 ((rd_T41 l0 x3_1).f0) x4_3).f1) ((rd_T46 ((rd_T41 l0 x3_1).f0) x4_3).f2) ((rd_T46 ((rd_T41 l0 x3_1).f0) x4_3).f3) ((rd_T46 ((rd_T41 l0 x3_1).f0) x4_3).f4))) = some r := by rw [if_pos rfl] at H; exact H
                                  clear H
                                  have H := H1
                                  clear H1
                                  replace H := Option.bind_eq_some_iff.mp H
                                  obtain ⟨t138, A200, H⟩ := H
                                  replace H : (arraslaw20_FlexPlains.j4 kj4 l0 x3_1 x4_3 0 t138 ((rd_T46 ((rd_T41 l0 x3_1).f0) x4_3).f0) ((rd_T46 ((rd_T41 l0 x3_1).f0) x4_3).f1) ((rd_T46 ((rd_T41 l0 x3_1).f0) x4_3).f2) ((rd_T46 ((rd_T41 l0 x3_1).f0) x4_3).f3) ((rd_T46 ((rd_T41 l0 x3_1).f0) x4_3).f4)) = some r := H
                                  have A20 := Aside0.mk A200
                                  clear A200
                                  have H' := Aside0.mk H
                                  clear H
                                  have hcz21_0 : w18.cell? ⟨gb136, 0, none⟩ = some (.int .i64 ((rd_T46 ((rd_T41 l0 x3_1).f0) x4_3).f0)) := (blk_cell BK136.out 0).trans rfl
                                  have hcz21_1 : w18.cell? ⟨gb136, 1, none⟩ = some (.int .i64 ((rd_T46 ((rd_T41 l0 x3_1).f0) x4_3).f1)) := (blk_cell BK136.out 1).trans rfl
                                  have hcz21_2 : w18.cell? ⟨gb136, 2, none⟩ = some (.int .i64 ((rd_T46 ((rd_T41 l0 x3_1).f0) x4_3).f2)) := (blk_cell BK136.out 2).trans rfl
                                  have hcz21_3 : w18.cell? ⟨gb136, 3, none⟩ = some (.int .i64 ((rd_T46 ((rd_T41 l0 x3_1).f0) x4_3).f3)) := (blk_cell BK136.out 3).trans rfl
                                  have hcz21_4 : w18.cell? ⟨gb136, 4, none⟩ = some (.int .i64 ((rd_T46 ((rd_T41 l0 x3_1).f0) x4_3).f4)) := (blk_cell BK136.out 4).trans rfl
                                  have hfz21_0 := blk_frozen BK136.out 0
                                  have hfz21_1 := blk_frozen BK136.out 1
                                  have hfz21_2 := blk_frozen BK136.out 2
                                  have hfz21_3 := blk_frozen BK136.out 3
                                  have hfz21_4 := blk_frozen BK136.out 4
                                  go_wp2_with (first | ((with_reducible refine gate_callee (f := 31) rfl ?_); refine goesL_ (some 45) rfl rfl Try.func31 (by kernel_rfl) rfl #[.agg #[.int .i64 ((rd_T46 ((rd_T41 l0 x3_1).f0) x4_3).f0), .int .i64 ((rd_T46 ((rd_T41 l0 x3_1).f0) x4_3).f1), .int .i64 ((rd_T46 ((rd_T41 l0 x3_1).f0) x4_3).f2), .int .i64 ((rd_T46 ((rd_T41 l0 x3_1).f0) x4_3).f3), .int .i64 ((rd_T46 ((rd_T41 l0 x3_1).f0) x4_3).f4)]] rfl (by (try simp only [List.map_toArray, List.map_cons, List.map_nil]); first | done | rfl | (simp only [List.length_drop, List.length_take]; rfl)) ?_; (with_reducible refine (arrasref19_Plain.calls ((rd_T46 ((rd_T41 l0 x3_1).f0) x4_3).f0) ((rd_T46 ((rd_T41 l0 x3_1).f0) x4_3).f1) ((rd_T46 ((rd_T41 l0 x3_1).f0) x4_3).f2) ((rd_T46 ((rd_T41 l0 x3_1).f0) x4_3).f3) ((rd_T46 ((rd_T41 l0 x3_1).f0) x4_3).f4) t138 _ A20.out).mono ?_); rintro e w22 ⟨rfl, hb⟩; refine ⟨_, rfl, ?_⟩; have n0_ := Aside0.mk (blk_below (g := gb136) (o := .cells #[.int .i64 ((rd_T46 ((rd_T41 l0 x3_1).f0) x4_3).f0), .int .i64 ((rd_T46 ((rd_T41 l0 x3_1).f0) x4_3).f1), .int .i64 ((rd_T46 ((rd_T41 l0 x3_1).f0) x4_3).f2), .int .i64 ((rd_T46 ((rd_T41 l0 x3_1).f0) x4_3).f3), .int .i64 ((rd_T46 ((rd_T41 l0 x3_1).f0) x4_3).f4)] 46 (0, 0)) (by (with_reducible repeat (first | refine blk_drewN ?_ _ | refine blk_drew ?_ | refine blk_alloc ?_ _)); exact BK136.out) hb); have n1_ := Aside0.mk (below_step (by repeat (first | (with_reducible first | exact HB.out | apply below_alloc | apply pw_below_drewN | apply below_drew1 | refine below_set ?_ GE136.out) | exact HB.out)) hb); clear BK136; clear HB; have BK136 := n0_; have HB := n1_; clear n0_ n1_; (try clear hb); (try clear hb2); (try clear hk); (try clear hi)))
                                  go_meet
                                  case rel => exact ⟨_, (0), (t138), (by first | rfl | (simp; done) | (simp [*]; done)), (by first | rfl | (simp; done) | (simp [*]; done)), H', ⟨by have := HK1.out; have := HJ1.out; have := HK3.out; have := HJ4.out; first | omega | exact Nat.le_refl _⟩, ⟨by (with_reducible repeat (first | refine blk_drewN ?_ _ | refine blk_drew ?_ | refine blk_alloc ?_ _)); exact BK136.out⟩, ⟨by repeat (first | (with_reducible first | exact HB.out | apply below_alloc | apply pw_below_drewN | apply below_drew1 | refine below_set ?_ GE136.out) | exact HB.out)⟩⟩
                                · replace c19 := Bool.eq_false_iff.mpr c19
                                  subst c19
                                  have H1 : (arraslaw20_FlexPlains.j4 kj4 l0 x3_1 x4_3 1 0 ((rd_T46 ((rd_T41 l0 x3_1).f0) x4_3).f0) ((rd_T46 ((rd_T41 l0 x3_1).f0) x4_3).f1) ((rd_T46 ((rd_T41 l0 x3_1).f0) x4_3).f2) ((rd_T46 ((rd_T41 l0 x3_1).f0) x4_3).f3) ((rd_T46 ((rd_T41 l0 x3_1).f0) x4_3).f4)) = some r := by rw [if_neg (show ¬ (false = true) by decide)] at H; exact H
                                  clear H
                                  have H := H1
                                  clear H1
                                  have H' := Aside0.mk H
                                  clear H
                                  go_wp2
                                  go_meet
                                  case rel => exact ⟨_, (1), (0), (by first | rfl | (simp; done) | (simp [*]; done)), (by first | rfl | (simp; done) | (simp [*]; done)), H', ⟨by have := HK1.out; have := HJ1.out; have := HK3.out; have := HJ4.out; first | omega | exact Nat.le_refl _⟩, ⟨by (with_reducible repeat (first | refine blk_drewN ?_ _ | refine blk_drew ?_ | refine blk_alloc ?_ _)); exact BK136.out⟩, ⟨by repeat (first | (with_reducible first | exact HB.out | apply below_alloc | apply pw_below_drewN | apply below_drew1 | refine below_set ?_ GE136.out) | exact HB.out)⟩⟩
                              case rest =>
                                clear HC15
                                try clear c1
                                try clear p1
                                try clear q1
                                try clear hx1
                                try clear p2
                                try clear c3
                                try clear c3b0
                                try clear c4
                                try clear c6
                                try clear c6b0
                                try clear c7
                                try clear c7b0
                                try clear c8
                                try clear c8b0
                                try clear c9
                                try clear c10
                                try clear c10b0
                                try clear c11
                                try clear c11b0
                                try clear c12
                                try clear c12b0
                                try clear c13
                                try clear c13b0
                                try clear p13
                                try clear q13
                                try clear hx13
                                try clear c19
                                try clear hcz17_0
                                try clear hcz17_1
                                try clear hcz17_2
                                try clear hcz17_3
                                try clear hcz17_4
                                try clear hcz21_0
                                try clear hcz21_1
                                try clear hcz21_2
                                try clear hcz21_3
                                try clear hcz21_4
                                try clear hfz17_0
                                try clear hfz17_1
                                try clear hfz17_2
                                try clear hfz17_3
                                try clear hfz17_4
                                try clear hfz21_0
                                try clear hfz21_1
                                try clear hfz21_2
                                try clear hfz21_3
                                try clear hfz21_4
                                try clear hx133_0
                                try clear hx133_1
                                try clear hx133_2
                                try clear hx134_0
                                try clear hx134_1
                                try clear hx134_2
                                try clear hx135_0
                                try clear hx135_1
                                try clear hx135_2
                                try clear hx135_3
                                try clear hx135_4
                                try clear p1
                                try clear p133
                                try clear p134
                                try clear p135
                                try clear p2
                                try clear q1
                                try clear q133
                                try clear q134
                                try clear q135
                                obtain ⟨kq, x6_14, x7_14, rfl, rfl, HA, HJ14, BK136, HB⟩ := hcut
                                cases kq with
                                | zero => exact absurd HA.out (by simp [arraslaw20_FlexPlains.j4])
                                | succ kj14 =>
                                  have H := HA.out
                                  clear HA
                                  simp only [arraslaw20_FlexPlains.j4] at H
                                  replace H := Option.bind_eq_some_iff.mp H
                                  obtain ⟨⟨t139, t140⟩, A230, H⟩ := H
                                  replace H : ((flex_Check.f ((rd_T46 ((rd_T41 l0 x3_1).f0) x4_3).f0) ((rd_T46 ((rd_T41 l0 x3_1).f0) x4_3).f1) ((rd_T46 ((rd_T41 l0 x3_1).f0) x4_3).f2) ((rd_T46 ((rd_T41 l0 x3_1).f0) x4_3).f3) ((rd_T46 ((rd_T41 l0 x3_1).f0) x4_3).f4)).bind fun t141 => ((arraslaw20_num.f t141).bind fun t142 => (if t142 = x6_14 then ((arraslaw20_num.f t140).bind fun t143 => (if t143 = x6_14 then (if t139 = x7_14 then (arraslaw20_FlexPlains.l1 kj14 l0 x3_1 (wrap64 (x4_3 + 1))) else (some false)) else (some false))) else (some false)))) = some r := H
                                  have A23 := Aside0.mk A230
                                  clear A230
                                  replace H := Option.bind_eq_some_iff.mp H
                                  obtain ⟨t141, A240, H⟩ := H
                                  replace H : ((arraslaw20_num.f t141).bind fun t142 => (if t142 = x6_14 then ((arraslaw20_num.f t140).bind fun t143 => (if t143 = x6_14 then (if t139 = x7_14 then (arraslaw20_FlexPlains.l1 kj14 l0 x3_1 (wrap64 (x4_3 + 1))) else (some false)) else (some false))) else (some false))) = some r := H
                                  have A24 := Aside0.mk A240
                                  clear A240
                                  replace H := Option.bind_eq_some_iff.mp H
                                  obtain ⟨t142, A250, H⟩ := H
                                  replace H : (if t142 = x6_14 then ((arraslaw20_num.f t140).bind fun t143 => (if t143 = x6_14 then (if t139 = x7_14 then (arraslaw20_FlexPlains.l1 kj14 l0 x3_1 (wrap64 (x4_3 + 1))) else (some false)) else (some false))) else (some false)) = some r := H
                                  have A25 := Aside0.mk A250
                                  clear A250
                                  by_cases c26 : t142 = x6_14
                                  · rw [if_pos c26] at H
                                    have c26b0 : (t142 == x6_14) = true := beq_iff_eq.mpr c26
                                    have c26b1 : (t142 != x6_14) = false := bne_eq_false_iff_eq.mpr c26
                                    clear c26
                                    replace H := Option.bind_eq_some_iff.mp H
                                    obtain ⟨t143, A270, H⟩ := H
                                    replace H : (if t143 = x6_14 then (if t139 = x7_14 then (arraslaw20_FlexPlains.l1 kj14 l0 x3_1 (wrap64 (x4_3 + 1))) else (some false)) else (some false)) = some r := H
                                    have A27 := Aside0.mk A270
                                    clear A270
                                    by_cases c28 : t143 = x6_14
                                    · rw [if_pos c28] at H
                                      have c28b0 : (t143 == x6_14) = true := beq_iff_eq.mpr c28
                                      have c28b1 : (t143 != x6_14) = false := bne_eq_false_iff_eq.mpr c28
                                      clear c28
                                      by_cases c29 : t139 = x7_14
                                      · rw [if_pos c29] at H
                                        have c29b0 : (t139 == x7_14) = true := beq_iff_eq.mpr c29
                                        have c29b1 : (t139 != x7_14) = false := bne_eq_false_iff_eq.mpr c29
                                        clear c29
                                        have H' := Aside0.mk H
                                        clear H
                                        have hcz30_0 : wc.cell? ⟨gb136, 0, none⟩ = some (.int .i64 ((rd_T46 ((rd_T41 l0 x3_1).f0) x4_3).f0)) := (blk_cell BK136.out 0).trans rfl
                                        have hcz30_1 : wc.cell? ⟨gb136, 1, none⟩ = some (.int .i64 ((rd_T46 ((rd_T41 l0 x3_1).f0) x4_3).f1)) := (blk_cell BK136.out 1).trans rfl
                                        have hcz30_2 : wc.cell? ⟨gb136, 2, none⟩ = some (.int .i64 ((rd_T46 ((rd_T41 l0 x3_1).f0) x4_3).f2)) := (blk_cell BK136.out 2).trans rfl
                                        have hcz30_3 : wc.cell? ⟨gb136, 3, none⟩ = some (.int .i64 ((rd_T46 ((rd_T41 l0 x3_1).f0) x4_3).f3)) := (blk_cell BK136.out 3).trans rfl
                                        have hcz30_4 : wc.cell? ⟨gb136, 4, none⟩ = some (.int .i64 ((rd_T46 ((rd_T41 l0 x3_1).f0) x4_3).f4)) := (blk_cell BK136.out 4).trans rfl
                                        have hfz30_0 := blk_frozen BK136.out 0
                                        have hfz30_1 := blk_frozen BK136.out 1
                                        have hfz30_2 := blk_frozen BK136.out 2
                                        have hfz30_3 := blk_frozen BK136.out 3
                                        have hfz30_4 := blk_frozen BK136.out 4
                                        go_wp2_with (first | ((with_reducible refine gate_callee (f := 32) rfl ?_); refine goesL_ (some 48) rfl rfl Try.func32 (by kernel_rfl) rfl #[.agg #[.int .i64 ((rd_T46 ((rd_T41 l0 x3_1).f0) x4_3).f0), .int .i64 ((rd_T46 ((rd_T41 l0 x3_1).f0) x4_3).f1), .int .i64 ((rd_T46 ((rd_T41 l0 x3_1).f0) x4_3).f2), .int .i64 ((rd_T46 ((rd_T41 l0 x3_1).f0) x4_3).f3), .int .i64 ((rd_T46 ((rd_T41 l0 x3_1).f0) x4_3).f4)]] rfl (by (try simp only [List.map_toArray, List.map_cons, List.map_nil]); first | done | rfl | (simp only [List.length_drop, List.length_take]; rfl)) ?_; (with_reducible refine (flex_Plain.calls ((rd_T46 ((rd_T41 l0 x3_1).f0) x4_3).f0) ((rd_T46 ((rd_T41 l0 x3_1).f0) x4_3).f1) ((rd_T46 ((rd_T41 l0 x3_1).f0) x4_3).f2) ((rd_T46 ((rd_T41 l0 x3_1).f0) x4_3).f3) ((rd_T46 ((rd_T41 l0 x3_1).f0) x4_3).f4) t139 t140 _ A23.out).mono ?_); rintro e w31 ⟨rfl, hb⟩; refine ⟨_, rfl, ?_⟩; have n0_ := Aside0.mk (blk_below (g := gb136) (o := .cells #[.int .i64 ((rd_T46 ((rd_T41 l0 x3_1).f0) x4_3).f0), .int .i64 ((rd_T46 ((rd_T41 l0 x3_1).f0) x4_3).f1), .int .i64 ((rd_T46 ((rd_T41 l0 x3_1).f0) x4_3).f2), .int .i64 ((rd_T46 ((rd_T41 l0 x3_1).f0) x4_3).f3), .int .i64 ((rd_T46 ((rd_T41 l0 x3_1).f0) x4_3).f4)] 46 (0, 0)) (by (with_reducible repeat (first | refine blk_drewN ?_ _ | refine blk_drew ?_ | refine blk_alloc ?_ _)); exact BK136.out) hb); have n1_ := Aside0.mk (below_step (by repeat (first | (with_reducible first | exact HB.out | apply below_alloc | apply pw_below_drewN | apply below_drew1 | refine below_set ?_ GE136.out) | exact HB.out)) hb); clear BK136; clear HB; have BK136 := n0_; have HB := n1_; clear n0_ n1_; (try clear hb); (try clear hb2); (try clear hk); (try clear hi); have hcz32_0 : w31.cell? ⟨gb136, 0, none⟩ = some (.int .i64 ((rd_T46 ((rd_T41 l0 x3_1).f0) x4_3).f0)) := (blk_cell BK136.out 0).trans rfl; have hcz32_1 : w31.cell? ⟨gb136, 1, none⟩ = some (.int .i64 ((rd_T46 ((rd_T41 l0 x3_1).f0) x4_3).f1)) := (blk_cell BK136.out 1).trans rfl; have hcz32_2 : w31.cell? ⟨gb136, 2, none⟩ = some (.int .i64 ((rd_T46 ((rd_T41 l0 x3_1).f0) x4_3).f2)) := (blk_cell BK136.out 2).trans rfl; have hcz32_3 : w31.cell? ⟨gb136, 3, none⟩ = some (.int .i64 ((rd_T46 ((rd_T41 l0 x3_1).f0) x4_3).f3)) := (blk_cell BK136.out 3).trans rfl; have hcz32_4 : w31.cell? ⟨gb136, 4, none⟩ = some (.int .i64 ((rd_T46 ((rd_T41 l0 x3_1).f0) x4_3).f4)) := (blk_cell BK136.out 4).trans rfl; have hfz32_0 := blk_frozen BK136.out 0; have hfz32_1 := blk_frozen BK136.out 1; have hfz32_2 := blk_frozen BK136.out 2; have hfz32_3 := blk_frozen BK136.out 3; have hfz32_4 := blk_frozen BK136.out 4) | ((with_reducible refine gate_callee (f := 33) rfl ?_); refine goesL_ (some 52) rfl rfl Try.func33 (by kernel_rfl) rfl #[.agg #[.int .i64 ((rd_T46 ((rd_T41 l0 x3_1).f0) x4_3).f0), .int .i64 ((rd_T46 ((rd_T41 l0 x3_1).f0) x4_3).f1), .int .i64 ((rd_T46 ((rd_T41 l0 x3_1).f0) x4_3).f2), .int .i64 ((rd_T46 ((rd_T41 l0 x3_1).f0) x4_3).f3), .int .i64 ((rd_T46 ((rd_T41 l0 x3_1).f0) x4_3).f4)]] rfl (by (try simp only [List.map_toArray, List.map_cons, List.map_nil]); first | done | rfl | (simp only [List.length_drop, List.length_take]; rfl)) ?_; (with_reducible refine (flex_Check.calls ((rd_T46 ((rd_T41 l0 x3_1).f0) x4_3).f0) ((rd_T46 ((rd_T41 l0 x3_1).f0) x4_3).f1) ((rd_T46 ((rd_T41 l0 x3_1).f0) x4_3).f2) ((rd_T46 ((rd_T41 l0 x3_1).f0) x4_3).f3) ((rd_T46 ((rd_T41 l0 x3_1).f0) x4_3).f4) t141 _ A24.out).mono ?_); rintro e w33 ⟨rfl, hb⟩; refine ⟨_, rfl, ?_⟩; have n0_ := Aside0.mk (blk_below (g := gb136) (o := .cells #[.int .i64 ((rd_T46 ((rd_T41 l0 x3_1).f0) x4_3).f0), .int .i64 ((rd_T46 ((rd_T41 l0 x3_1).f0) x4_3).f1), .int .i64 ((rd_T46 ((rd_T41 l0 x3_1).f0) x4_3).f2), .int .i64 ((rd_T46 ((rd_T41 l0 x3_1).f0) x4_3).f3), .int .i64 ((rd_T46 ((rd_T41 l0 x3_1).f0) x4_3).f4)] 46 (0, 0)) (by (with_reducible repeat (first | refine blk_drewN ?_ _ | refine blk_drew ?_ | refine blk_alloc ?_ _)); exact BK136.out) hb); have n1_ := Aside0.mk (below_step (by repeat (first | (with_reducible first | exact HB.out | apply below_alloc | apply pw_below_drewN | apply below_drew1 | refine below_set ?_ GE136.out) | exact HB.out)) hb); clear BK136; clear HB; have BK136 := n0_; have HB := n1_; clear n0_ n1_; (try clear hb); (try clear hb2); (try clear hk); (try clear hi)) | ((with_reducible refine gate_callee (f := 24) rfl ?_); refine goesL_ (some 53) rfl rfl Try.func24 (by kernel_rfl) rfl #[.int .i64 t141] rfl (by (try simp only [List.map_toArray, List.map_cons, List.map_nil]); first | done | rfl | (simp only [List.length_drop, List.length_take]; rfl)) ?_; (with_reducible refine (arraslaw20_num.calls t141 t142 _ A25.out).mono ?_); rintro e w' ⟨rfl, ⟨nd, rfl⟩⟩; refine ⟨_, rfl, ?_⟩) | (go_at_call 24; (with_reducible refine (arraslaw20_num.calls t140 t143 _ A27.out).mono ?_); rintro e w' ⟨rfl, ⟨nd, rfl⟩⟩))
                                        go_roundg kj14
                                        case measure => have := HK1.out; have := HJ1.out; have := HK3.out; have := HJ4.out; have := HJ14.out; omega
                                        case rel => exact ⟨(wrap64 (x4_3 + 1)), (by first | rfl | (simp; done) | (simp [*]; done)), H', ⟨by have := HK1.out; have := HJ1.out; have := HK3.out; have := HJ4.out; have := HJ14.out; omega⟩, ⟨by repeat (first | (with_reducible first | exact HB.out | apply below_alloc | apply pw_below_drewN | apply below_drew1 | refine below_set ?_ GE136.out) | exact HB.out)⟩⟩
                                      · rw [if_neg c29] at H
                                        have c29b0 : (t139 == x7_14) = false := beq_eq_false_iff_ne.mpr c29
                                        have c29b1 : (t139 != x7_14) = true := bne_iff_ne.mpr c29
                                        obtain rfl := Option.some.inj H
                                        have hcz34_0 : wc.cell? ⟨gb136, 0, none⟩ = some (.int .i64 ((rd_T46 ((rd_T41 l0 x3_1).f0) x4_3).f0)) := (blk_cell BK136.out 0).trans rfl
                                        have hcz34_1 : wc.cell? ⟨gb136, 1, none⟩ = some (.int .i64 ((rd_T46 ((rd_T41 l0 x3_1).f0) x4_3).f1)) := (blk_cell BK136.out 1).trans rfl
                                        have hcz34_2 : wc.cell? ⟨gb136, 2, none⟩ = some (.int .i64 ((rd_T46 ((rd_T41 l0 x3_1).f0) x4_3).f2)) := (blk_cell BK136.out 2).trans rfl
                                        have hcz34_3 : wc.cell? ⟨gb136, 3, none⟩ = some (.int .i64 ((rd_T46 ((rd_T41 l0 x3_1).f0) x4_3).f3)) := (blk_cell BK136.out 3).trans rfl
                                        have hcz34_4 : wc.cell? ⟨gb136, 4, none⟩ = some (.int .i64 ((rd_T46 ((rd_T41 l0 x3_1).f0) x4_3).f4)) := (blk_cell BK136.out 4).trans rfl
                                        have hfz34_0 := blk_frozen BK136.out 0
                                        have hfz34_1 := blk_frozen BK136.out 1
                                        have hfz34_2 := blk_frozen BK136.out 2
                                        have hfz34_3 := blk_frozen BK136.out 3
                                        have hfz34_4 := blk_frozen BK136.out 4
                                        go_wp2_with (first | ((with_reducible refine gate_callee (f := 32) rfl ?_); refine goesL_ (some 48) rfl rfl Try.func32 (by kernel_rfl) rfl #[.agg #[.int .i64 ((rd_T46 ((rd_T41 l0 x3_1).f0) x4_3).f0), .int .i64 ((rd_T46 ((rd_T41 l0 x3_1).f0) x4_3).f1), .int .i64 ((rd_T46 ((rd_T41 l0 x3_1).f0) x4_3).f2), .int .i64 ((rd_T46 ((rd_T41 l0 x3_1).f0) x4_3).f3), .int .i64 ((rd_T46 ((rd_T41 l0 x3_1).f0) x4_3).f4)]] rfl (by (try simp only [List.map_toArray, List.map_cons, List.map_nil]); first | done | rfl | (simp only [List.length_drop, List.length_take]; rfl)) ?_; (with_reducible refine (flex_Plain.calls ((rd_T46 ((rd_T41 l0 x3_1).f0) x4_3).f0) ((rd_T46 ((rd_T41 l0 x3_1).f0) x4_3).f1) ((rd_T46 ((rd_T41 l0 x3_1).f0) x4_3).f2) ((rd_T46 ((rd_T41 l0 x3_1).f0) x4_3).f3) ((rd_T46 ((rd_T41 l0 x3_1).f0) x4_3).f4) t139 t140 _ A23.out).mono ?_); rintro e w35 ⟨rfl, hb⟩; refine ⟨_, rfl, ?_⟩; have n0_ := Aside0.mk (blk_below (g := gb136) (o := .cells #[.int .i64 ((rd_T46 ((rd_T41 l0 x3_1).f0) x4_3).f0), .int .i64 ((rd_T46 ((rd_T41 l0 x3_1).f0) x4_3).f1), .int .i64 ((rd_T46 ((rd_T41 l0 x3_1).f0) x4_3).f2), .int .i64 ((rd_T46 ((rd_T41 l0 x3_1).f0) x4_3).f3), .int .i64 ((rd_T46 ((rd_T41 l0 x3_1).f0) x4_3).f4)] 46 (0, 0)) (by (with_reducible repeat (first | refine blk_drewN ?_ _ | refine blk_drew ?_ | refine blk_alloc ?_ _)); exact BK136.out) hb); have n1_ := Aside0.mk (below_step (by repeat (first | (with_reducible first | exact HB.out | apply below_alloc | apply pw_below_drewN | apply below_drew1 | refine below_set ?_ GE136.out) | exact HB.out)) hb); clear BK136; clear HB; have BK136 := n0_; have HB := n1_; clear n0_ n1_; (try clear hb); (try clear hb2); (try clear hk); (try clear hi); have hcz36_0 : w35.cell? ⟨gb136, 0, none⟩ = some (.int .i64 ((rd_T46 ((rd_T41 l0 x3_1).f0) x4_3).f0)) := (blk_cell BK136.out 0).trans rfl; have hcz36_1 : w35.cell? ⟨gb136, 1, none⟩ = some (.int .i64 ((rd_T46 ((rd_T41 l0 x3_1).f0) x4_3).f1)) := (blk_cell BK136.out 1).trans rfl; have hcz36_2 : w35.cell? ⟨gb136, 2, none⟩ = some (.int .i64 ((rd_T46 ((rd_T41 l0 x3_1).f0) x4_3).f2)) := (blk_cell BK136.out 2).trans rfl; have hcz36_3 : w35.cell? ⟨gb136, 3, none⟩ = some (.int .i64 ((rd_T46 ((rd_T41 l0 x3_1).f0) x4_3).f3)) := (blk_cell BK136.out 3).trans rfl; have hcz36_4 : w35.cell? ⟨gb136, 4, none⟩ = some (.int .i64 ((rd_T46 ((rd_T41 l0 x3_1).f0) x4_3).f4)) := (blk_cell BK136.out 4).trans rfl; have hfz36_0 := blk_frozen BK136.out 0; have hfz36_1 := blk_frozen BK136.out 1; have hfz36_2 := blk_frozen BK136.out 2; have hfz36_3 := blk_frozen BK136.out 3; have hfz36_4 := blk_frozen BK136.out 4) | ((with_reducible refine gate_callee (f := 33) rfl ?_); refine goesL_ (some 52) rfl rfl Try.func33 (by kernel_rfl) rfl #[.agg #[.int .i64 ((rd_T46 ((rd_T41 l0 x3_1).f0) x4_3).f0), .int .i64 ((rd_T46 ((rd_T41 l0 x3_1).f0) x4_3).f1), .int .i64 ((rd_T46 ((rd_T41 l0 x3_1).f0) x4_3).f2), .int .i64 ((rd_T46 ((rd_T41 l0 x3_1).f0) x4_3).f3), .int .i64 ((rd_T46 ((rd_T41 l0 x3_1).f0) x4_3).f4)]] rfl (by (try simp only [List.map_toArray, List.map_cons, List.map_nil]); first | done | rfl | (simp only [List.length_drop, List.length_take]; rfl)) ?_; (with_reducible refine (flex_Check.calls ((rd_T46 ((rd_T41 l0 x3_1).f0) x4_3).f0) ((rd_T46 ((rd_T41 l0 x3_1).f0) x4_3).f1) ((rd_T46 ((rd_T41 l0 x3_1).f0) x4_3).f2) ((rd_T46 ((rd_T41 l0 x3_1).f0) x4_3).f3) ((rd_T46 ((rd_T41 l0 x3_1).f0) x4_3).f4) t141 _ A24.out).mono ?_); rintro e w37 ⟨rfl, hb⟩; refine ⟨_, rfl, ?_⟩; have n0_ := Aside0.mk (blk_below (g := gb136) (o := .cells #[.int .i64 ((rd_T46 ((rd_T41 l0 x3_1).f0) x4_3).f0), .int .i64 ((rd_T46 ((rd_T41 l0 x3_1).f0) x4_3).f1), .int .i64 ((rd_T46 ((rd_T41 l0 x3_1).f0) x4_3).f2), .int .i64 ((rd_T46 ((rd_T41 l0 x3_1).f0) x4_3).f3), .int .i64 ((rd_T46 ((rd_T41 l0 x3_1).f0) x4_3).f4)] 46 (0, 0)) (by (with_reducible repeat (first | refine blk_drewN ?_ _ | refine blk_drew ?_ | refine blk_alloc ?_ _)); exact BK136.out) hb); have n1_ := Aside0.mk (below_step (by repeat (first | (with_reducible first | exact HB.out | apply below_alloc | apply pw_below_drewN | apply below_drew1 | refine below_set ?_ GE136.out) | exact HB.out)) hb); clear BK136; clear HB; have BK136 := n0_; have HB := n1_; clear n0_ n1_; (try clear hb); (try clear hb2); (try clear hk); (try clear hi)) | ((with_reducible refine gate_callee (f := 24) rfl ?_); refine goesL_ (some 53) rfl rfl Try.func24 (by kernel_rfl) rfl #[.int .i64 t141] rfl (by (try simp only [List.map_toArray, List.map_cons, List.map_nil]); first | done | rfl | (simp only [List.length_drop, List.length_take]; rfl)) ?_; (with_reducible refine (arraslaw20_num.calls t141 t142 _ A25.out).mono ?_); rintro e w' ⟨rfl, ⟨nd, rfl⟩⟩; refine ⟨_, rfl, ?_⟩) | (go_at_call 24; (with_reducible refine (arraslaw20_num.calls t140 t143 _ A27.out).mono ?_); rintro e w' ⟨rfl, ⟨nd, rfl⟩⟩))
                                        go_ret
                                        exact ⟨by first | rfl | (simp [errW_none, errW_some] <;> rfl) | (simp [*, errW_none, errW_some] <;> rfl), by repeat (first | (with_reducible first | exact HB.out | apply below_alloc | apply pw_below_drewN | apply below_drew1 | refine below_set ?_ GE136.out) | exact HB.out)⟩
                                    · rw [if_neg c28] at H
                                      have c28b0 : (t143 == x6_14) = false := beq_eq_false_iff_ne.mpr c28
                                      have c28b1 : (t143 != x6_14) = true := bne_iff_ne.mpr c28
                                      obtain rfl := Option.some.inj H
                                      have hcz38_0 : wc.cell? ⟨gb136, 0, none⟩ = some (.int .i64 ((rd_T46 ((rd_T41 l0 x3_1).f0) x4_3).f0)) := (blk_cell BK136.out 0).trans rfl
                                      have hcz38_1 : wc.cell? ⟨gb136, 1, none⟩ = some (.int .i64 ((rd_T46 ((rd_T41 l0 x3_1).f0) x4_3).f1)) := (blk_cell BK136.out 1).trans rfl
                                      have hcz38_2 : wc.cell? ⟨gb136, 2, none⟩ = some (.int .i64 ((rd_T46 ((rd_T41 l0 x3_1).f0) x4_3).f2)) := (blk_cell BK136.out 2).trans rfl
                                      have hcz38_3 : wc.cell? ⟨gb136, 3, none⟩ = some (.int .i64 ((rd_T46 ((rd_T41 l0 x3_1).f0) x4_3).f3)) := (blk_cell BK136.out 3).trans rfl
                                      have hcz38_4 : wc.cell? ⟨gb136, 4, none⟩ = some (.int .i64 ((rd_T46 ((rd_T41 l0 x3_1).f0) x4_3).f4)) := (blk_cell BK136.out 4).trans rfl
                                      have hfz38_0 := blk_frozen BK136.out 0
                                      have hfz38_1 := blk_frozen BK136.out 1
                                      have hfz38_2 := blk_frozen BK136.out 2
                                      have hfz38_3 := blk_frozen BK136.out 3
                                      have hfz38_4 := blk_frozen BK136.out 4
                                      go_wp2_with (first | ((with_reducible refine gate_callee (f := 32) rfl ?_); refine goesL_ (some 48) rfl rfl Try.func32 (by kernel_rfl) rfl #[.agg #[.int .i64 ((rd_T46 ((rd_T41 l0 x3_1).f0) x4_3).f0), .int .i64 ((rd_T46 ((rd_T41 l0 x3_1).f0) x4_3).f1), .int .i64 ((rd_T46 ((rd_T41 l0 x3_1).f0) x4_3).f2), .int .i64 ((rd_T46 ((rd_T41 l0 x3_1).f0) x4_3).f3), .int .i64 ((rd_T46 ((rd_T41 l0 x3_1).f0) x4_3).f4)]] rfl (by (try simp only [List.map_toArray, List.map_cons, List.map_nil]); first | done | rfl | (simp only [List.length_drop, List.length_take]; rfl)) ?_; (with_reducible refine (flex_Plain.calls ((rd_T46 ((rd_T41 l0 x3_1).f0) x4_3).f0) ((rd_T46 ((rd_T41 l0 x3_1).f0) x4_3).f1) ((rd_T46 ((rd_T41 l0 x3_1).f0) x4_3).f2) ((rd_T46 ((rd_T41 l0 x3_1).f0) x4_3).f3) ((rd_T46 ((rd_T41 l0 x3_1).f0) x4_3).f4) t139 t140 _ A23.out).mono ?_); rintro e w39 ⟨rfl, hb⟩; refine ⟨_, rfl, ?_⟩; have n0_ := Aside0.mk (blk_below (g := gb136) (o := .cells #[.int .i64 ((rd_T46 ((rd_T41 l0 x3_1).f0) x4_3).f0), .int .i64 ((rd_T46 ((rd_T41 l0 x3_1).f0) x4_3).f1), .int .i64 ((rd_T46 ((rd_T41 l0 x3_1).f0) x4_3).f2), .int .i64 ((rd_T46 ((rd_T41 l0 x3_1).f0) x4_3).f3), .int .i64 ((rd_T46 ((rd_T41 l0 x3_1).f0) x4_3).f4)] 46 (0, 0)) (by (with_reducible repeat (first | refine blk_drewN ?_ _ | refine blk_drew ?_ | refine blk_alloc ?_ _)); exact BK136.out) hb); have n1_ := Aside0.mk (below_step (by repeat (first | (with_reducible first | exact HB.out | apply below_alloc | apply pw_below_drewN | apply below_drew1 | refine below_set ?_ GE136.out) | exact HB.out)) hb); clear BK136; clear HB; have BK136 := n0_; have HB := n1_; clear n0_ n1_; (try clear hb); (try clear hb2); (try clear hk); (try clear hi); have hcz40_0 : w39.cell? ⟨gb136, 0, none⟩ = some (.int .i64 ((rd_T46 ((rd_T41 l0 x3_1).f0) x4_3).f0)) := (blk_cell BK136.out 0).trans rfl; have hcz40_1 : w39.cell? ⟨gb136, 1, none⟩ = some (.int .i64 ((rd_T46 ((rd_T41 l0 x3_1).f0) x4_3).f1)) := (blk_cell BK136.out 1).trans rfl; have hcz40_2 : w39.cell? ⟨gb136, 2, none⟩ = some (.int .i64 ((rd_T46 ((rd_T41 l0 x3_1).f0) x4_3).f2)) := (blk_cell BK136.out 2).trans rfl; have hcz40_3 : w39.cell? ⟨gb136, 3, none⟩ = some (.int .i64 ((rd_T46 ((rd_T41 l0 x3_1).f0) x4_3).f3)) := (blk_cell BK136.out 3).trans rfl; have hcz40_4 : w39.cell? ⟨gb136, 4, none⟩ = some (.int .i64 ((rd_T46 ((rd_T41 l0 x3_1).f0) x4_3).f4)) := (blk_cell BK136.out 4).trans rfl; have hfz40_0 := blk_frozen BK136.out 0; have hfz40_1 := blk_frozen BK136.out 1; have hfz40_2 := blk_frozen BK136.out 2; have hfz40_3 := blk_frozen BK136.out 3; have hfz40_4 := blk_frozen BK136.out 4) | ((with_reducible refine gate_callee (f := 33) rfl ?_); refine goesL_ (some 52) rfl rfl Try.func33 (by kernel_rfl) rfl #[.agg #[.int .i64 ((rd_T46 ((rd_T41 l0 x3_1).f0) x4_3).f0), .int .i64 ((rd_T46 ((rd_T41 l0 x3_1).f0) x4_3).f1), .int .i64 ((rd_T46 ((rd_T41 l0 x3_1).f0) x4_3).f2), .int .i64 ((rd_T46 ((rd_T41 l0 x3_1).f0) x4_3).f3), .int .i64 ((rd_T46 ((rd_T41 l0 x3_1).f0) x4_3).f4)]] rfl (by (try simp only [List.map_toArray, List.map_cons, List.map_nil]); first | done | rfl | (simp only [List.length_drop, List.length_take]; rfl)) ?_; (with_reducible refine (flex_Check.calls ((rd_T46 ((rd_T41 l0 x3_1).f0) x4_3).f0) ((rd_T46 ((rd_T41 l0 x3_1).f0) x4_3).f1) ((rd_T46 ((rd_T41 l0 x3_1).f0) x4_3).f2) ((rd_T46 ((rd_T41 l0 x3_1).f0) x4_3).f3) ((rd_T46 ((rd_T41 l0 x3_1).f0) x4_3).f4) t141 _ A24.out).mono ?_); rintro e w41 ⟨rfl, hb⟩; refine ⟨_, rfl, ?_⟩; have n0_ := Aside0.mk (blk_below (g := gb136) (o := .cells #[.int .i64 ((rd_T46 ((rd_T41 l0 x3_1).f0) x4_3).f0), .int .i64 ((rd_T46 ((rd_T41 l0 x3_1).f0) x4_3).f1), .int .i64 ((rd_T46 ((rd_T41 l0 x3_1).f0) x4_3).f2), .int .i64 ((rd_T46 ((rd_T41 l0 x3_1).f0) x4_3).f3), .int .i64 ((rd_T46 ((rd_T41 l0 x3_1).f0) x4_3).f4)] 46 (0, 0)) (by (with_reducible repeat (first | refine blk_drewN ?_ _ | refine blk_drew ?_ | refine blk_alloc ?_ _)); exact BK136.out) hb); have n1_ := Aside0.mk (below_step (by repeat (first | (with_reducible first | exact HB.out | apply below_alloc | apply pw_below_drewN | apply below_drew1 | refine below_set ?_ GE136.out) | exact HB.out)) hb); clear BK136; clear HB; have BK136 := n0_; have HB := n1_; clear n0_ n1_; (try clear hb); (try clear hb2); (try clear hk); (try clear hi)) | ((with_reducible refine gate_callee (f := 24) rfl ?_); refine goesL_ (some 53) rfl rfl Try.func24 (by kernel_rfl) rfl #[.int .i64 t141] rfl (by (try simp only [List.map_toArray, List.map_cons, List.map_nil]); first | done | rfl | (simp only [List.length_drop, List.length_take]; rfl)) ?_; (with_reducible refine (arraslaw20_num.calls t141 t142 _ A25.out).mono ?_); rintro e w' ⟨rfl, ⟨nd, rfl⟩⟩; refine ⟨_, rfl, ?_⟩) | (go_at_call 24; (with_reducible refine (arraslaw20_num.calls t140 t143 _ A27.out).mono ?_); rintro e w' ⟨rfl, ⟨nd, rfl⟩⟩))
                                      go_ret
                                      exact ⟨by first | rfl | (simp [errW_none, errW_some] <;> rfl) | (simp [*, errW_none, errW_some] <;> rfl), by repeat (first | (with_reducible first | exact HB.out | apply below_alloc | apply pw_below_drewN | apply below_drew1 | refine below_set ?_ GE136.out) | exact HB.out)⟩
                                  · rw [if_neg c26] at H
                                    have c26b0 : (t142 == x6_14) = false := beq_eq_false_iff_ne.mpr c26
                                    have c26b1 : (t142 != x6_14) = true := bne_iff_ne.mpr c26
                                    obtain rfl := Option.some.inj H
                                    have hcz42_0 : wc.cell? ⟨gb136, 0, none⟩ = some (.int .i64 ((rd_T46 ((rd_T41 l0 x3_1).f0) x4_3).f0)) := (blk_cell BK136.out 0).trans rfl
                                    have hcz42_1 : wc.cell? ⟨gb136, 1, none⟩ = some (.int .i64 ((rd_T46 ((rd_T41 l0 x3_1).f0) x4_3).f1)) := (blk_cell BK136.out 1).trans rfl
                                    have hcz42_2 : wc.cell? ⟨gb136, 2, none⟩ = some (.int .i64 ((rd_T46 ((rd_T41 l0 x3_1).f0) x4_3).f2)) := (blk_cell BK136.out 2).trans rfl
                                    have hcz42_3 : wc.cell? ⟨gb136, 3, none⟩ = some (.int .i64 ((rd_T46 ((rd_T41 l0 x3_1).f0) x4_3).f3)) := (blk_cell BK136.out 3).trans rfl
                                    have hcz42_4 : wc.cell? ⟨gb136, 4, none⟩ = some (.int .i64 ((rd_T46 ((rd_T41 l0 x3_1).f0) x4_3).f4)) := (blk_cell BK136.out 4).trans rfl
                                    have hfz42_0 := blk_frozen BK136.out 0
                                    have hfz42_1 := blk_frozen BK136.out 1
                                    have hfz42_2 := blk_frozen BK136.out 2
                                    have hfz42_3 := blk_frozen BK136.out 3
                                    have hfz42_4 := blk_frozen BK136.out 4
                                    go_wp2_with (first | ((with_reducible refine gate_callee (f := 32) rfl ?_); refine goesL_ (some 48) rfl rfl Try.func32 (by kernel_rfl) rfl #[.agg #[.int .i64 ((rd_T46 ((rd_T41 l0 x3_1).f0) x4_3).f0), .int .i64 ((rd_T46 ((rd_T41 l0 x3_1).f0) x4_3).f1), .int .i64 ((rd_T46 ((rd_T41 l0 x3_1).f0) x4_3).f2), .int .i64 ((rd_T46 ((rd_T41 l0 x3_1).f0) x4_3).f3), .int .i64 ((rd_T46 ((rd_T41 l0 x3_1).f0) x4_3).f4)]] rfl (by (try simp only [List.map_toArray, List.map_cons, List.map_nil]); first | done | rfl | (simp only [List.length_drop, List.length_take]; rfl)) ?_; (with_reducible refine (flex_Plain.calls ((rd_T46 ((rd_T41 l0 x3_1).f0) x4_3).f0) ((rd_T46 ((rd_T41 l0 x3_1).f0) x4_3).f1) ((rd_T46 ((rd_T41 l0 x3_1).f0) x4_3).f2) ((rd_T46 ((rd_T41 l0 x3_1).f0) x4_3).f3) ((rd_T46 ((rd_T41 l0 x3_1).f0) x4_3).f4) t139 t140 _ A23.out).mono ?_); rintro e w43 ⟨rfl, hb⟩; refine ⟨_, rfl, ?_⟩; have n0_ := Aside0.mk (blk_below (g := gb136) (o := .cells #[.int .i64 ((rd_T46 ((rd_T41 l0 x3_1).f0) x4_3).f0), .int .i64 ((rd_T46 ((rd_T41 l0 x3_1).f0) x4_3).f1), .int .i64 ((rd_T46 ((rd_T41 l0 x3_1).f0) x4_3).f2), .int .i64 ((rd_T46 ((rd_T41 l0 x3_1).f0) x4_3).f3), .int .i64 ((rd_T46 ((rd_T41 l0 x3_1).f0) x4_3).f4)] 46 (0, 0)) (by (with_reducible repeat (first | refine blk_drewN ?_ _ | refine blk_drew ?_ | refine blk_alloc ?_ _)); exact BK136.out) hb); have n1_ := Aside0.mk (below_step (by repeat (first | (with_reducible first | exact HB.out | apply below_alloc | apply pw_below_drewN | apply below_drew1 | refine below_set ?_ GE136.out) | exact HB.out)) hb); clear BK136; clear HB; have BK136 := n0_; have HB := n1_; clear n0_ n1_; (try clear hb); (try clear hb2); (try clear hk); (try clear hi); have hcz44_0 : w43.cell? ⟨gb136, 0, none⟩ = some (.int .i64 ((rd_T46 ((rd_T41 l0 x3_1).f0) x4_3).f0)) := (blk_cell BK136.out 0).trans rfl; have hcz44_1 : w43.cell? ⟨gb136, 1, none⟩ = some (.int .i64 ((rd_T46 ((rd_T41 l0 x3_1).f0) x4_3).f1)) := (blk_cell BK136.out 1).trans rfl; have hcz44_2 : w43.cell? ⟨gb136, 2, none⟩ = some (.int .i64 ((rd_T46 ((rd_T41 l0 x3_1).f0) x4_3).f2)) := (blk_cell BK136.out 2).trans rfl; have hcz44_3 : w43.cell? ⟨gb136, 3, none⟩ = some (.int .i64 ((rd_T46 ((rd_T41 l0 x3_1).f0) x4_3).f3)) := (blk_cell BK136.out 3).trans rfl; have hcz44_4 : w43.cell? ⟨gb136, 4, none⟩ = some (.int .i64 ((rd_T46 ((rd_T41 l0 x3_1).f0) x4_3).f4)) := (blk_cell BK136.out 4).trans rfl; have hfz44_0 := blk_frozen BK136.out 0; have hfz44_1 := blk_frozen BK136.out 1; have hfz44_2 := blk_frozen BK136.out 2; have hfz44_3 := blk_frozen BK136.out 3; have hfz44_4 := blk_frozen BK136.out 4) | ((with_reducible refine gate_callee (f := 33) rfl ?_); refine goesL_ (some 52) rfl rfl Try.func33 (by kernel_rfl) rfl #[.agg #[.int .i64 ((rd_T46 ((rd_T41 l0 x3_1).f0) x4_3).f0), .int .i64 ((rd_T46 ((rd_T41 l0 x3_1).f0) x4_3).f1), .int .i64 ((rd_T46 ((rd_T41 l0 x3_1).f0) x4_3).f2), .int .i64 ((rd_T46 ((rd_T41 l0 x3_1).f0) x4_3).f3), .int .i64 ((rd_T46 ((rd_T41 l0 x3_1).f0) x4_3).f4)]] rfl (by (try simp only [List.map_toArray, List.map_cons, List.map_nil]); first | done | rfl | (simp only [List.length_drop, List.length_take]; rfl)) ?_; (with_reducible refine (flex_Check.calls ((rd_T46 ((rd_T41 l0 x3_1).f0) x4_3).f0) ((rd_T46 ((rd_T41 l0 x3_1).f0) x4_3).f1) ((rd_T46 ((rd_T41 l0 x3_1).f0) x4_3).f2) ((rd_T46 ((rd_T41 l0 x3_1).f0) x4_3).f3) ((rd_T46 ((rd_T41 l0 x3_1).f0) x4_3).f4) t141 _ A24.out).mono ?_); rintro e w45 ⟨rfl, hb⟩; refine ⟨_, rfl, ?_⟩; have n0_ := Aside0.mk (blk_below (g := gb136) (o := .cells #[.int .i64 ((rd_T46 ((rd_T41 l0 x3_1).f0) x4_3).f0), .int .i64 ((rd_T46 ((rd_T41 l0 x3_1).f0) x4_3).f1), .int .i64 ((rd_T46 ((rd_T41 l0 x3_1).f0) x4_3).f2), .int .i64 ((rd_T46 ((rd_T41 l0 x3_1).f0) x4_3).f3), .int .i64 ((rd_T46 ((rd_T41 l0 x3_1).f0) x4_3).f4)] 46 (0, 0)) (by (with_reducible repeat (first | refine blk_drewN ?_ _ | refine blk_drew ?_ | refine blk_alloc ?_ _)); exact BK136.out) hb); have n1_ := Aside0.mk (below_step (by repeat (first | (with_reducible first | exact HB.out | apply below_alloc | apply pw_below_drewN | apply below_drew1 | refine below_set ?_ GE136.out) | exact HB.out)) hb); clear BK136; clear HB; have BK136 := n0_; have HB := n1_; clear n0_ n1_; (try clear hb); (try clear hb2); (try clear hk); (try clear hi)) | ((with_reducible refine gate_callee (f := 24) rfl ?_); refine goesL_ (some 53) rfl rfl Try.func24 (by kernel_rfl) rfl #[.int .i64 t141] rfl (by (try simp only [List.map_toArray, List.map_cons, List.map_nil]); first | done | rfl | (simp only [List.length_drop, List.length_take]; rfl)) ?_; (with_reducible refine (arraslaw20_num.calls t141 t142 _ A25.out).mono ?_); rintro e w' ⟨rfl, ⟨nd, rfl⟩⟩; refine ⟨_, rfl, ?_⟩))
                                    go_ret
                                    exact ⟨by first | rfl | (simp [errW_none, errW_some] <;> rfl) | (simp [*, errW_none, errW_some] <;> rfl), by repeat (first | (with_reducible first | exact HB.out | apply below_alloc | apply pw_below_drewN | apply below_drew1 | refine below_set ?_ GE136.out) | exact HB.out)⟩
                            · rw [if_neg c13] at H
                              exact absurd H (by simp)
                          · rw [if_neg c12] at H
                            exact absurd H (by simp)
                        · rw [if_neg c11] at H
                          exact absurd H (by simp)
                      · rw [if_neg c10] at H
                        exact absurd H (by simp)
                    · replace c9 := Bool.eq_false_iff.mpr c9
                      subst c9
                      have H1 : (arraslaw20_FlexPlains.l0 kj4 l0 (wrap64 (x3_1 + 1))) = some r := by rw [if_neg (show ¬ (false = true) by decide)] at H; exact H
                      clear H
                      have H := H1
                      clear H1
                      have H' := Aside0.mk H
                      clear H
                      go_wp2
                      go_roundg kj4
                      case measure => have := HK1.out; have := HJ1.out; have := HK3.out; have := HJ4.out; omega
                      case rel => exact ⟨(wrap64 (x3_1 + 1)), (by first | rfl | (simp; done) | (simp [*]; done)), H', ⟨by have := HK1.out; have := HJ1.out; have := HK3.out; have := HJ4.out; omega⟩, ⟨by repeat (first | (with_reducible first | exact HB.out | apply below_alloc | apply pw_below_drewN | apply below_drew1) | exact HB.out)⟩⟩
          · replace c4 := Bool.eq_false_iff.mpr c4
            subst c4
            have H1 : ((arraslaw20_wakes.f kj1).bind fun t132 => (some t132)) = some r := by rw [if_neg (show ¬ (false = true) by decide)] at H; exact H
            clear H
            have H := H1
            clear H1
            replace H := Option.bind_eq_some_iff.mp H
            obtain ⟨t132, A460, H⟩ := H
            replace H : (some t132) = some r := H
            have A46 := Aside0.mk A460
            clear A460
            obtain rfl := Option.some.inj H
            go_wp2_with (first | ((with_reducible refine gate_callee (f := 26) rfl ?_); refine goesL_ (some 67) rfl rfl Try.func26 (by kernel_rfl) rfl #[] rfl (by (try simp only [List.map_toArray, List.map_cons, List.map_nil]); first | done | rfl | (simp only [List.length_drop, List.length_take]; rfl)) ?_; (with_reducible refine (arraslaw20_wakes.calls kj1  t132 _ A46.out).mono ?_); rintro e w47 ⟨rfl, hb⟩; refine ⟨_, rfl, ?_⟩; have n0_ := Aside0.mk (below_step (by repeat (first | (with_reducible first | exact HB.out | apply below_alloc | apply pw_below_drewN | apply below_drew1) | exact HB.out)) hb); clear HB; have HB := n0_; clear n0_; (try clear hb); (try clear hb2); (try clear hk); (try clear hi)))
            go_ret
            exact ⟨by first | rfl | (simp [errW_none, errW_some] <;> rfl) | (simp [*, errW_none, errW_some] <;> rfl), by repeat (first | (with_reducible first | exact HB.out | apply below_alloc | apply pw_below_drewN | apply below_drew1) | exact HB.out)⟩

end Go.Proofs.Ytjjlmmebkemlgaa.PG
