-- Written by wprint.py, a program of this session's, over the kit's print.
import Derived.Test.YtdilliddflnbnaaPAx0
import Derived.Test.YtdilliddflnbnaaPAx2
import Derived.Test.YtdilliddflnbnaaPAx6
import Derived.Test.YtdilliddflnbnaaPAx8
import Derived.Test.YtdilliddflnbnaaPAx10
import Derived.Test.YtdilliddflnbnaaPAx14
namespace Go.Proofs.Ytdilliddflnbnaa.PA
open Go.RowKit Go.Proofs.YtdilliddflnbnaaW.PrintWords Go.Proofs.YtdilliddflnbnaaW.PrintLast Go.Proofs.YtdilliddflnbnaaW.PrintMore
attribute [local go_sem] max2_int min2_int max_two min_two max_three min_three max_four min_four   -- for this text's walks alone
set_option linter.unusedVariables false
set_option linter.unusedSimpArgs false

/-! ### arraslaw1_FixedLaws: function 8 -/
mutual
def arraslaw1_FixedLaws.l0 : Nat → List Int → Int → Option (Bool)
  | 0, _, _ => none
  | k + 1, x0, x3 => if (wrap64 (x3 + 2)) < (x0.length : Int) then (arraslaw1_FixedLaws.j1 k x0 x3 (decide (x3 < 40))) else (arraslaw1_FixedLaws.j1 k x0 x3 false)
def arraslaw1_FixedLaws.j1 : Nat → List Int → Int → Bool → Option (Bool)
  | 0, _, _, _ => none
  | k + 1, x0, x3, x24 => if x24 = true then (if 0 ≤ x3 then (if x3 < (x0.length : Int) then ((arraslaw0_Within.f (rd x0 x3) 1073741824).bind fun t371 => (if 0 ≤ (wrap64 (x3 + 1)) then (if (wrap64 (x3 + 1)) < (x0.length : Int) then ((arraslaw0_Within.f (rd x0 (wrap64 (x3 + 1))) 1073741824).bind fun t373 => (if 0 ≤ (wrap64 (x3 + 2)) then (if (wrap64 (x3 + 2)) < (x0.length : Int) then ((arraslaw0_Within.f (rd x0 (wrap64 (x3 + 2))) 1073741824).bind fun t375 => ((fixed_Add.f k (wrap64 (t371 - 536870912)) (wrap64 (t373 - 536870912))).bind fun bt376 => ((fixed_Add.f k (wrap64 (t373 - 536870912)) (wrap64 (t371 - 536870912))).bind fun bt378 => ((fixed_Sub.f bt376.1 (wrap64 (t373 - 536870912))).bind fun bt380 => ((arraslaw1_num.f bt376.2).bind fun t382 => (if t382 = 0 then ((arraslaw1_num.f bt378.2).bind fun t383 => (if t383 = 0 then ((arraslaw1_num.f bt380.2).bind fun t384 => (if t384 = 0 then (if bt376.1 = bt378.1 then (if bt380.1 = (wrap64 (t371 - 536870912)) then (arraslaw1_FixedLaws.j2 k x0 x3 (wrap64 (t371 - 536870912)) (wrap64 (t373 - 536870912)) (wrap64 (1 + t375)) (bt376.1 != (wrap64 ((wrap64 (t371 - 536870912)) + (wrap64 (t373 - 536870912)))))) else (arraslaw1_FixedLaws.j2 k x0 x3 (wrap64 (t371 - 536870912)) (wrap64 (t373 - 536870912)) (wrap64 (1 + t375)) true)) else (arraslaw1_FixedLaws.j2 k x0 x3 (wrap64 (t371 - 536870912)) (wrap64 (t373 - 536870912)) (wrap64 (1 + t375)) true)) else (arraslaw1_FixedLaws.j2 k x0 x3 (wrap64 (t371 - 536870912)) (wrap64 (t373 - 536870912)) (wrap64 (1 + t375)) true))) else (arraslaw1_FixedLaws.j2 k x0 x3 (wrap64 (t371 - 536870912)) (wrap64 (t373 - 536870912)) (wrap64 (1 + t375)) true))) else (arraslaw1_FixedLaws.j2 k x0 x3 (wrap64 (t371 - 536870912)) (wrap64 (t373 - 536870912)) (wrap64 (1 + t375)) true))))))) else (none)) else (none))) else (none)) else (none))) else (none)) else (none)) else ((arraslaw1_wakes.f k).bind fun t369 => (some t369))
def arraslaw1_FixedLaws.j2 : Nat → List Int → Int → Int → Int → Int → Bool → Option (Bool)
  | 0, _, _, _, _, _, _ => none
  | k + 1, x0, x3, x4, x5, x6, x94 => if x94 = true then (some false) else ((fixed_MulDiv.f k x4 x6 x6).bind fun bt385 => ((fixed_MulDiv.f k x4 x5 x6).bind fun bt387 => ((fixed_MulDiv.f k x5 x4 x6).bind fun bt389 => ((arraslaw1_num.f bt385.2).bind fun t391 => (if t391 = 0 then ((arraslaw1_num.f bt387.2).bind fun t392 => (if t392 = 0 then ((arraslaw1_num.f bt389.2).bind fun t393 => (if t393 = 0 then (if bt385.1 = x4 then (arraslaw1_FixedLaws.j3 k x0 x3 x4 x5 x6 bt387.1 (bt387.1 != bt389.1)) else (arraslaw1_FixedLaws.j3 k x0 x3 x4 x5 x6 bt387.1 true)) else (arraslaw1_FixedLaws.j3 k x0 x3 x4 x5 x6 bt387.1 true))) else (arraslaw1_FixedLaws.j3 k x0 x3 x4 x5 x6 bt387.1 true))) else (arraslaw1_FixedLaws.j3 k x0 x3 x4 x5 x6 bt387.1 true))))))
def arraslaw1_FixedLaws.j3 : Nat → List Int → Int → Int → Int → Int → Int → Bool → Option (Bool)
  | 0, _, _, _, _, _, _, _ => none
  | k + 1, x0, x3, x4, x5, x6, x14, x138 => if x138 = true then (some false) else (if x14 > (-1099511627776) then (if x14 < 1099511627776 then (if (wrap64 ((wrap64 (x4 * x5)) - (wrap64 (x14 * x6)))) < 0 then (some false) else (if (wrap64 ((wrap64 (x4 * x5)) - (wrap64 (x14 * x6)))) ≥ x6 then (some false) else (arraslaw1_FixedLaws.l0 k x0 (wrap64 (x3 + 1))))) else (arraslaw1_FixedLaws.l0 k x0 (wrap64 (x3 + 1)))) else (arraslaw1_FixedLaws.l0 k x0 (wrap64 (x3 + 1))))
end
def arraslaw1_FixedLaws.f (k : Nat) (l0 : List Int) : Option (Bool) := arraslaw1_FixedLaws.l0 k l0 0
theorem arraslaw1_FixedLaws.mono_l : ∀ k, (∀ y0 y1, LeO (arraslaw1_FixedLaws.l0 k y0 y1) (arraslaw1_FixedLaws.l0 (k + 1) y0 y1)) ∧ (∀ y0 y1 y2, LeO (arraslaw1_FixedLaws.j1 k y0 y1 y2) (arraslaw1_FixedLaws.j1 (k + 1) y0 y1 y2)) ∧ (∀ y0 y1 y2 y3 y4 y5, LeO (arraslaw1_FixedLaws.j2 k y0 y1 y2 y3 y4 y5) (arraslaw1_FixedLaws.j2 (k + 1) y0 y1 y2 y3 y4 y5)) ∧ (∀ y0 y1 y2 y3 y4 y5 y6, LeO (arraslaw1_FixedLaws.j3 k y0 y1 y2 y3 y4 y5 y6) (arraslaw1_FixedLaws.j3 (k + 1) y0 y1 y2 y3 y4 y5 y6))
  | 0 => ⟨fun _ _ r h => by simp [arraslaw1_FixedLaws.l0] at h, fun _ _ _ r h => by simp [arraslaw1_FixedLaws.j1] at h, fun _ _ _ _ _ _ r h => by simp [arraslaw1_FixedLaws.j2] at h, fun _ _ _ _ _ _ _ r h => by simp [arraslaw1_FixedLaws.j3] at h⟩
  | k + 1 => by
    obtain ⟨ih0, ih1, ih2, ih3⟩ := arraslaw1_FixedLaws.mono_l k
    refine ⟨?_, ?_, ?_, ?_⟩
    · intro y0 y1
      unfold arraslaw1_FixedLaws.l0
      repeat' first
      | (with_reducible exact ih0 _ _)
      | (with_reducible exact ih1 _ _ _)
      | (with_reducible exact ih2 _ _ _ _ _ _)
      | (with_reducible exact ih3 _ _ _ _ _ _ _)
      | (with_reducible exact arraslaw1_wakes.mono _)
      | (with_reducible exact fixed_Add.mono _ _ _)
      | (with_reducible exact fixed_MulDiv.mono _ _ _ _)
      | (with_reducible exact LeO.refl _)
      | (with_reducible exact LeO.none _)
      | (with_reducible refine LeO.ite ?_ ?_)
      | (with_reducible refine LeO.bind ?_ (fun _ => ?_))
      | exact ih0 _ _
      | exact ih1 _ _ _
      | exact ih2 _ _ _ _ _ _
      | exact ih3 _ _ _ _ _ _ _
      | exact arraslaw1_wakes.mono _
      | exact fixed_Add.mono _ _ _
      | exact fixed_MulDiv.mono _ _ _ _
      | exact LeO.none _
      | refine LeO.ite ?_ ?_
      | refine LeO.bind ?_ (fun _ => ?_)
    · intro y0 y1 y2
      unfold arraslaw1_FixedLaws.j1
      repeat' first
      | (with_reducible exact ih0 _ _)
      | (with_reducible exact ih1 _ _ _)
      | (with_reducible exact ih2 _ _ _ _ _ _)
      | (with_reducible exact ih3 _ _ _ _ _ _ _)
      | (with_reducible exact arraslaw1_wakes.mono _)
      | (with_reducible exact fixed_Add.mono _ _ _)
      | (with_reducible exact fixed_MulDiv.mono _ _ _ _)
      | (with_reducible exact LeO.refl _)
      | (with_reducible exact LeO.none _)
      | (with_reducible refine LeO.ite ?_ ?_)
      | (with_reducible refine LeO.bind ?_ (fun _ => ?_))
      | exact ih0 _ _
      | exact ih1 _ _ _
      | exact ih2 _ _ _ _ _ _
      | exact ih3 _ _ _ _ _ _ _
      | exact arraslaw1_wakes.mono _
      | exact fixed_Add.mono _ _ _
      | exact fixed_MulDiv.mono _ _ _ _
      | exact LeO.none _
      | refine LeO.ite ?_ ?_
      | refine LeO.bind ?_ (fun _ => ?_)
    · intro y0 y1 y2 y3 y4 y5
      unfold arraslaw1_FixedLaws.j2
      repeat' first
      | (with_reducible exact ih0 _ _)
      | (with_reducible exact ih1 _ _ _)
      | (with_reducible exact ih2 _ _ _ _ _ _)
      | (with_reducible exact ih3 _ _ _ _ _ _ _)
      | (with_reducible exact arraslaw1_wakes.mono _)
      | (with_reducible exact fixed_Add.mono _ _ _)
      | (with_reducible exact fixed_MulDiv.mono _ _ _ _)
      | (with_reducible exact LeO.refl _)
      | (with_reducible exact LeO.none _)
      | (with_reducible refine LeO.ite ?_ ?_)
      | (with_reducible refine LeO.bind ?_ (fun _ => ?_))
      | exact ih0 _ _
      | exact ih1 _ _ _
      | exact ih2 _ _ _ _ _ _
      | exact ih3 _ _ _ _ _ _ _
      | exact arraslaw1_wakes.mono _
      | exact fixed_Add.mono _ _ _
      | exact fixed_MulDiv.mono _ _ _ _
      | exact LeO.none _
      | refine LeO.ite ?_ ?_
      | refine LeO.bind ?_ (fun _ => ?_)
    · intro y0 y1 y2 y3 y4 y5 y6
      unfold arraslaw1_FixedLaws.j3
      repeat' first
      | (with_reducible exact ih0 _ _)
      | (with_reducible exact ih1 _ _ _)
      | (with_reducible exact ih2 _ _ _ _ _ _)
      | (with_reducible exact ih3 _ _ _ _ _ _ _)
      | (with_reducible exact arraslaw1_wakes.mono _)
      | (with_reducible exact fixed_Add.mono _ _ _)
      | (with_reducible exact fixed_MulDiv.mono _ _ _ _)
      | (with_reducible exact LeO.refl _)
      | (with_reducible exact LeO.none _)
      | (with_reducible refine LeO.ite ?_ ?_)
      | (with_reducible refine LeO.bind ?_ (fun _ => ?_))
      | exact ih0 _ _
      | exact ih1 _ _ _
      | exact ih2 _ _ _ _ _ _
      | exact ih3 _ _ _ _ _ _ _
      | exact arraslaw1_wakes.mono _
      | exact fixed_Add.mono _ _ _
      | exact fixed_MulDiv.mono _ _ _ _
      | exact LeO.none _
      | refine LeO.ite ?_ ?_
      | refine LeO.bind ?_ (fun _ => ?_)
theorem arraslaw1_FixedLaws.mono : ∀ a0 k, LeO (arraslaw1_FixedLaws.f k a0) (arraslaw1_FixedLaws.f (k + 1) a0) := by
  intro a0 k
  obtain ⟨ih0, ih1, ih2, ih3⟩ := arraslaw1_FixedLaws.mono_l k
  unfold arraslaw1_FixedLaws.f
  repeat' first
      | (with_reducible exact ih0 _ _)
      | (with_reducible exact ih1 _ _ _)
      | (with_reducible exact ih2 _ _ _ _ _ _)
      | (with_reducible exact ih3 _ _ _ _ _ _ _)
      | (with_reducible exact arraslaw1_wakes.mono _)
      | (with_reducible exact fixed_Add.mono _ _ _)
      | (with_reducible exact fixed_MulDiv.mono _ _ _ _)
      | (with_reducible exact LeO.refl _)
      | (with_reducible exact LeO.none _)
      | (with_reducible refine LeO.ite ?_ ?_)
      | (with_reducible refine LeO.bind ?_ (fun _ => ?_))
      | exact ih0 _ _
      | exact ih1 _ _ _
      | exact ih2 _ _ _ _ _ _
      | exact ih3 _ _ _ _ _ _ _
      | exact arraslaw1_wakes.mono _
      | exact fixed_Add.mono _ _ _
      | exact fixed_MulDiv.mono _ _ _ _
      | exact LeO.none _
      | refine LeO.ite ?_ ?_
      | refine LeO.bind ?_ (fun _ => ?_)
set_option maxHeartbeats 8000000 in
set_option maxRecDepth 100000 in
theorem arraslaw1_FixedLaws.calls (k : Nat) (A0 : Option Addr) (c0 : Nat) (l0 : List Int) (r : Bool) (w : World) (hr0 : Kd.C (Kd.int .i64) w A0 l0.length l0) (hc0 : l0.length ≤ c0) (h : arraslaw1_FixedLaws.f k l0 = some r) :
    Calls Try.prog 8 #[.slice A0 l0.length c0] w fun e w' => e = .returned (.bool r) ∧ Below w.heap.size w w' := by
  have HR0 := Aside0.mk hr0
  have HC0 := Aside0.mk hc0
  clear hr0 hc0
  have HB := Aside0.mk (Below.refl w.heap.size w)
  have H : (arraslaw1_FixedLaws.l0 k l0 0) = some r := h
  clear h
  have H' := Aside0.mk H
  clear H
  go_enter Try.func8, Try.ntmps8
  go_wp2
  repeat (go_quiet (fail); try go_wp2)
  go_loopg [3] k (fun kq v3 w' => ∃ (x3_1 : Int), v3 = .int .i64 x3_1 ∧ Aside0 (arraslaw1_FixedLaws.l0 kq l0 x3_1 = some r) ∧ Aside0 (kq ≤ k) ∧ Aside0 (Below w.heap.size w w'))
  case atStart => exact ⟨(0), (by first | rfl | (simp; done) | (simp [*]; done)), H', ⟨Nat.le_refl _⟩, ⟨by repeat (first | (with_reducible first | exact HB.out | apply below_alloc | apply pw_below_drewN | apply below_drew1) | exact HB.out)⟩⟩
  case round =>
    clear H'
    obtain ⟨x3_1, rfl, HA, HK1, HB⟩ := hrel
    cases gk with
    | zero => exact absurd HA.out (by simp [arraslaw1_FixedLaws.l0])
    | succ k1 =>
      have H := HA.out
      clear HA
      simp only [arraslaw1_FixedLaws.l0] at H
      have HC2 := Aside0.mk H
      clear H
      go_upto_region 2 with (fail)
      repeat (go_quiet (fail); go_upto_region 2 with (fail))
      go_cut [24] (fun v24 wc => ∃ (kq : Nat) (x24_1 : Bool), v24 = .bool x24_1 ∧ Aside0 (arraslaw1_FixedLaws.j1 kq l0 x3_1 x24_1 = some r) ∧ Aside0 (kq ≤ k1) ∧ Aside0 (Below w.heap.size w wc))
      case first =>
        have H := HC2.out
        clear HC2
        by_cases c3 : (wrap64 (x3_1 + 2)) < (l0.length : Int)
        · rw [if_pos c3] at H
          have c3b0 : decide ((wrap64 (x3_1 + 2)) < (l0.length : Int)) = true := decide_eq_true c3
          clear c3
          (first | rw [c3b0] | (simp only [i64_w, i32_w]; rw [c3b0]) | skip)
          have H' := Aside0.mk H
          clear H
          go_wp2
          repeat (go_quiet (fail); try go_wp2)
          go_meet
          case rel => exact ⟨_, (decide (x3_1 < 40)), (by first | rfl | (simp; done) | (simp [*]; done)), H', ⟨by have := HK1.out; first | omega | exact Nat.le_refl _⟩, ⟨by repeat (first | (with_reducible first | exact HB.out | apply below_alloc | apply pw_below_drewN | apply below_drew1) | exact HB.out)⟩⟩
        · rw [if_neg c3] at H
          have c3b0 : decide ((wrap64 (x3_1 + 2)) < (l0.length : Int)) = false := decide_eq_false c3
          clear c3
          (first | rw [c3b0] | (simp only [i64_w, i32_w]; rw [c3b0]) | skip)
          have H' := Aside0.mk H
          clear H
          go_wp2
          repeat (go_quiet (fail); try go_wp2)
          go_meet
          case rel => exact ⟨_, (false), (by first | rfl | (simp; done) | (simp [*]; done)), H', ⟨by have := HK1.out; first | omega | exact Nat.le_refl _⟩, ⟨by repeat (first | (with_reducible first | exact HB.out | apply below_alloc | apply pw_below_drewN | apply below_drew1) | exact HB.out)⟩⟩
      case rest =>
        clear HC2
        try clear p2
        try clear c3
        try clear c3b0
        obtain ⟨kq, x24_1, rfl, HA, HJ1, HB⟩ := hcut
        cases kq with
        | zero => exact absurd HA.out (by simp [arraslaw1_FixedLaws.j1])
        | succ kj1 =>
          have H := HA.out
          clear HA
          simp only [arraslaw1_FixedLaws.j1] at H
          by_cases c4 : x24_1 = true
          · subst c4
            have H1 : (if 0 ≤ x3_1 then (if x3_1 < (l0.length : Int) then ((arraslaw0_Within.f (rd l0 x3_1) 1073741824).bind fun t371 => (if 0 ≤ (wrap64 (x3_1 + 1)) then (if (wrap64 (x3_1 + 1)) < (l0.length : Int) then ((arraslaw0_Within.f (rd l0 (wrap64 (x3_1 + 1))) 1073741824).bind fun t373 => (if 0 ≤ (wrap64 (x3_1 + 2)) then (if (wrap64 (x3_1 + 2)) < (l0.length : Int) then ((arraslaw0_Within.f (rd l0 (wrap64 (x3_1 + 2))) 1073741824).bind fun t375 => ((fixed_Add.f kj1 (wrap64 (t371 - 536870912)) (wrap64 (t373 - 536870912))).bind fun bt376 => ((fixed_Add.f kj1 (wrap64 (t373 - 536870912)) (wrap64 (t371 - 536870912))).bind fun bt378 => ((fixed_Sub.f bt376.1 (wrap64 (t373 - 536870912))).bind fun bt380 => ((arraslaw1_num.f bt376.2).bind fun t382 => (if t382 = 0 then ((arraslaw1_num.f bt378.2).bind fun t383 => (if t383 = 0 then ((arraslaw1_num.f bt380.2).bind fun t384 => (if t384 = 0 then (if bt376.1 = bt378.1 then (if bt380.1 = (wrap64 (t371 - 536870912)) then (arraslaw1_FixedLaws.j2 kj1 l0 x3_1 (wrap64 (t371 - 536870912)) (wrap64 (t373 - 536870912)) (wrap64 (1 + t375)) (bt376.1 != (wrap64 ((wrap64 (t371 - 536870912)) + (wrap64 (t373 - 536870912)))))) else (arraslaw1_FixedLaws.j2 kj1 l0 x3_1 (wrap64 (t371 - 536870912)) (wrap64 (t373 - 536870912)) (wrap64 (1 + t375)) true)) else (arraslaw1_FixedLaws.j2 kj1 l0 x3_1 (wrap64 (t371 - 536870912)) (wrap64 (t373 - 536870912)) (wrap64 (1 + t375)) true)) else (arraslaw1_FixedLaws.j2 kj1 l0 x3_1 (wrap64 (t371 - 536870912)) (wrap64 (t373 - 536870912)) (wrap64 (1 + t375)) true))) else (arraslaw1_FixedLaws.j2 kj1 l0 x3_1 (wrap64 (t371 - 536870912)) (wrap64 (t373 - 536870912)) (wrap64 (1 + t375)) true))) else (arraslaw1_FixedLaws.j2 kj1 l0 x3_1 (wrap64 (t371 - 536870912)) (wrap64 (t373 - 536870912)) (wrap64 (1 + t375)) true))))))) else (none)) else (none))) else (none)) else (none))) else (none)) else (none)) = some r := by rw [if_pos rfl] at H; exact H
            clear H
            have H := H1
            clear H1
            by_cases c5 : 0 ≤ x3_1
            · rw [if_pos c5] at H
              have c5b0 : decide (0 ≤ x3_1) = true := decide_eq_true c5
              clear c5
              by_cases c6 : x3_1 < (l0.length : Int)
              · rw [if_pos c6] at H
                have c6b0 : decide (x3_1 < (l0.length : Int)) = true := decide_eq_true c6
                clear c6
                replace H := Option.bind_eq_some_iff.mp H
                obtain ⟨t371, A70, H⟩ := H
                replace H : (if 0 ≤ (wrap64 (x3_1 + 1)) then (if (wrap64 (x3_1 + 1)) < (l0.length : Int) then ((arraslaw0_Within.f (rd l0 (wrap64 (x3_1 + 1))) 1073741824).bind fun t373 => (if 0 ≤ (wrap64 (x3_1 + 2)) then (if (wrap64 (x3_1 + 2)) < (l0.length : Int) then ((arraslaw0_Within.f (rd l0 (wrap64 (x3_1 + 2))) 1073741824).bind fun t375 => ((fixed_Add.f kj1 (wrap64 (t371 - 536870912)) (wrap64 (t373 - 536870912))).bind fun bt376 => ((fixed_Add.f kj1 (wrap64 (t373 - 536870912)) (wrap64 (t371 - 536870912))).bind fun bt378 => ((fixed_Sub.f bt376.1 (wrap64 (t373 - 536870912))).bind fun bt380 => ((arraslaw1_num.f bt376.2).bind fun t382 => (if t382 = 0 then ((arraslaw1_num.f bt378.2).bind fun t383 => (if t383 = 0 then ((arraslaw1_num.f bt380.2).bind fun t384 => (if t384 = 0 then (if bt376.1 = bt378.1 then (if bt380.1 = (wrap64 (t371 - 536870912)) then (arraslaw1_FixedLaws.j2 kj1 l0 x3_1 (wrap64 (t371 - 536870912)) (wrap64 (t373 - 536870912)) (wrap64 (1 + t375)) (bt376.1 != (wrap64 ((wrap64 (t371 - 536870912)) + (wrap64 (t373 - 536870912)))))) else (arraslaw1_FixedLaws.j2 kj1 l0 x3_1 (wrap64 (t371 - 536870912)) (wrap64 (t373 - 536870912)) (wrap64 (1 + t375)) true)) else (arraslaw1_FixedLaws.j2 kj1 l0 x3_1 (wrap64 (t371 - 536870912)) (wrap64 (t373 - 536870912)) (wrap64 (1 + t375)) true)) else (arraslaw1_FixedLaws.j2 kj1 l0 x3_1 (wrap64 (t371 - 536870912)) (wrap64 (t373 - 536870912)) (wrap64 (1 + t375)) true))) else (arraslaw1_FixedLaws.j2 kj1 l0 x3_1 (wrap64 (t371 - 536870912)) (wrap64 (t373 - 536870912)) (wrap64 (1 + t375)) true))) else (arraslaw1_FixedLaws.j2 kj1 l0 x3_1 (wrap64 (t371 - 536870912)) (wrap64 (t373 - 536870912)) (wrap64 (1 + t375)) true))))))) else (none)) else (none))) else (none)) else (none)) = some r := H
                have A7 := Aside0.mk A70
                clear A70
                obtain ⟨ji8, hji8⟩ : ∃ j_ : Int, (wrap64 (x3_1 + 1)) = j_ := ⟨_, rfl⟩
                replace H : (if 0 ≤ (ji8) then (if (ji8) < (l0.length : Int) then ((arraslaw0_Within.f (rd l0 (ji8)) 1073741824).bind fun t373 => (if 0 ≤ (wrap64 (x3_1 + 2)) then (if (wrap64 (x3_1 + 2)) < (l0.length : Int) then ((arraslaw0_Within.f (rd l0 (wrap64 (x3_1 + 2))) 1073741824).bind fun t375 => ((fixed_Add.f kj1 (wrap64 (t371 - 536870912)) (wrap64 (t373 - 536870912))).bind fun bt376 => ((fixed_Add.f kj1 (wrap64 (t373 - 536870912)) (wrap64 (t371 - 536870912))).bind fun bt378 => ((fixed_Sub.f bt376.1 (wrap64 (t373 - 536870912))).bind fun bt380 => ((arraslaw1_num.f bt376.2).bind fun t382 => (if t382 = 0 then ((arraslaw1_num.f bt378.2).bind fun t383 => (if t383 = 0 then ((arraslaw1_num.f bt380.2).bind fun t384 => (if t384 = 0 then (if bt376.1 = bt378.1 then (if bt380.1 = (wrap64 (t371 - 536870912)) then (arraslaw1_FixedLaws.j2 kj1 l0 x3_1 (wrap64 (t371 - 536870912)) (wrap64 (t373 - 536870912)) (wrap64 (1 + t375)) (bt376.1 != (wrap64 ((wrap64 (t371 - 536870912)) + (wrap64 (t373 - 536870912)))))) else (arraslaw1_FixedLaws.j2 kj1 l0 x3_1 (wrap64 (t371 - 536870912)) (wrap64 (t373 - 536870912)) (wrap64 (1 + t375)) true)) else (arraslaw1_FixedLaws.j2 kj1 l0 x3_1 (wrap64 (t371 - 536870912)) (wrap64 (t373 - 536870912)) (wrap64 (1 + t375)) true)) else (arraslaw1_FixedLaws.j2 kj1 l0 x3_1 (wrap64 (t371 - 536870912)) (wrap64 (t373 - 536870912)) (wrap64 (1 + t375)) true))) else (arraslaw1_FixedLaws.j2 kj1 l0 x3_1 (wrap64 (t371 - 536870912)) (wrap64 (t373 - 536870912)) (wrap64 (1 + t375)) true))) else (arraslaw1_FixedLaws.j2 kj1 l0 x3_1 (wrap64 (t371 - 536870912)) (wrap64 (t373 - 536870912)) (wrap64 (1 + t375)) true))))))) else (none)) else (none))) else (none)) else (none)) = some r := by first | (rw [hji8] at H; exact H) | (simp only [hji8] at H ⊢; exact H)
                (try rw [hji8] at A7)
                have hji8w : (IntKind.i64.wrap (x3_1 + 1)) = ji8 := (i64_w _).trans hji8
                by_cases c9 : 0 ≤ (ji8)
                · rw [if_pos c9] at H
                  have c9b0 : decide (0 ≤ (ji8)) = true := decide_eq_true c9
                  clear c9
                  by_cases c10 : (ji8) < (l0.length : Int)
                  · rw [if_pos c10] at H
                    have c10b0 : decide ((ji8) < (l0.length : Int)) = true := decide_eq_true c10
                    clear c10
                    replace H := Option.bind_eq_some_iff.mp H
                    obtain ⟨t373, A110, H⟩ := H
                    replace H : (if 0 ≤ (wrap64 (x3_1 + 2)) then (if (wrap64 (x3_1 + 2)) < (l0.length : Int) then ((arraslaw0_Within.f (rd l0 (wrap64 (x3_1 + 2))) 1073741824).bind fun t375 => ((fixed_Add.f kj1 (wrap64 (t371 - 536870912)) (wrap64 (t373 - 536870912))).bind fun bt376 => ((fixed_Add.f kj1 (wrap64 (t373 - 536870912)) (wrap64 (t371 - 536870912))).bind fun bt378 => ((fixed_Sub.f bt376.1 (wrap64 (t373 - 536870912))).bind fun bt380 => ((arraslaw1_num.f bt376.2).bind fun t382 => (if t382 = 0 then ((arraslaw1_num.f bt378.2).bind fun t383 => (if t383 = 0 then ((arraslaw1_num.f bt380.2).bind fun t384 => (if t384 = 0 then (if bt376.1 = bt378.1 then (if bt380.1 = (wrap64 (t371 - 536870912)) then (arraslaw1_FixedLaws.j2 kj1 l0 x3_1 (wrap64 (t371 - 536870912)) (wrap64 (t373 - 536870912)) (wrap64 (1 + t375)) (bt376.1 != (wrap64 ((wrap64 (t371 - 536870912)) + (wrap64 (t373 - 536870912)))))) else (arraslaw1_FixedLaws.j2 kj1 l0 x3_1 (wrap64 (t371 - 536870912)) (wrap64 (t373 - 536870912)) (wrap64 (1 + t375)) true)) else (arraslaw1_FixedLaws.j2 kj1 l0 x3_1 (wrap64 (t371 - 536870912)) (wrap64 (t373 - 536870912)) (wrap64 (1 + t375)) true)) else (arraslaw1_FixedLaws.j2 kj1 l0 x3_1 (wrap64 (t371 - 536870912)) (wrap64 (t373 - 536870912)) (wrap64 (1 + t375)) true))) else (arraslaw1_FixedLaws.j2 kj1 l0 x3_1 (wrap64 (t371 - 536870912)) (wrap64 (t373 - 536870912)) (wrap64 (1 + t375)) true))) else (arraslaw1_FixedLaws.j2 kj1 l0 x3_1 (wrap64 (t371 - 536870912)) (wrap64 (t373 - 536870912)) (wrap64 (1 + t375)) true))))))) else (none)) else (none)) = some r := H
                    have A11 := Aside0.mk A110
                    clear A110
                    obtain ⟨ji12, hji12⟩ : ∃ j_ : Int, (wrap64 (x3_1 + 2)) = j_ := ⟨_, rfl⟩
                    replace H : (if 0 ≤ (ji12) then (if (ji12) < (l0.length : Int) then ((arraslaw0_Within.f (rd l0 (ji12)) 1073741824).bind fun t375 => ((fixed_Add.f kj1 (wrap64 (t371 - 536870912)) (wrap64 (t373 - 536870912))).bind fun bt376 => ((fixed_Add.f kj1 (wrap64 (t373 - 536870912)) (wrap64 (t371 - 536870912))).bind fun bt378 => ((fixed_Sub.f bt376.1 (wrap64 (t373 - 536870912))).bind fun bt380 => ((arraslaw1_num.f bt376.2).bind fun t382 => (if t382 = 0 then ((arraslaw1_num.f bt378.2).bind fun t383 => (if t383 = 0 then ((arraslaw1_num.f bt380.2).bind fun t384 => (if t384 = 0 then (if bt376.1 = bt378.1 then (if bt380.1 = (wrap64 (t371 - 536870912)) then (arraslaw1_FixedLaws.j2 kj1 l0 x3_1 (wrap64 (t371 - 536870912)) (wrap64 (t373 - 536870912)) (wrap64 (1 + t375)) (bt376.1 != (wrap64 ((wrap64 (t371 - 536870912)) + (wrap64 (t373 - 536870912)))))) else (arraslaw1_FixedLaws.j2 kj1 l0 x3_1 (wrap64 (t371 - 536870912)) (wrap64 (t373 - 536870912)) (wrap64 (1 + t375)) true)) else (arraslaw1_FixedLaws.j2 kj1 l0 x3_1 (wrap64 (t371 - 536870912)) (wrap64 (t373 - 536870912)) (wrap64 (1 + t375)) true)) else (arraslaw1_FixedLaws.j2 kj1 l0 x3_1 (wrap64 (t371 - 536870912)) (wrap64 (t373 - 536870912)) (wrap64 (1 + t375)) true))) else (arraslaw1_FixedLaws.j2 kj1 l0 x3_1 (wrap64 (t371 - 536870912)) (wrap64 (t373 - 536870912)) (wrap64 (1 + t375)) true))) else (arraslaw1_FixedLaws.j2 kj1 l0 x3_1 (wrap64 (t371 - 536870912)) (wrap64 (t373 - 536870912)) (wrap64 (1 + t375)) true))))))) else (none)) else (none)) = some r := by first | (rw [hji12] at H; exact H) | (simp only [hji12] at H ⊢; exact H)
                    (try rw [hji12] at A7)
                    (try rw [hji12] at A11)
                    have hji12w : (IntKind.i64.wrap (x3_1 + 2)) = ji12 := (i64_w _).trans hji12
                    by_cases c13 : 0 ≤ (ji12)
                    · rw [if_pos c13] at H
                      have c13b0 : decide (0 ≤ (ji12)) = true := decide_eq_true c13
                      clear c13
                      by_cases c14 : (ji12) < (l0.length : Int)
                      · rw [if_pos c14] at H
                        have c14b0 : decide ((ji12) < (l0.length : Int)) = true := decide_eq_true c14
                        clear c14
                        replace H := Option.bind_eq_some_iff.mp H
                        obtain ⟨t375, A150, H⟩ := H
                        replace H : ((fixed_Add.f kj1 (wrap64 (t371 - 536870912)) (wrap64 (t373 - 536870912))).bind fun bt376 => ((fixed_Add.f kj1 (wrap64 (t373 - 536870912)) (wrap64 (t371 - 536870912))).bind fun bt378 => ((fixed_Sub.f bt376.1 (wrap64 (t373 - 536870912))).bind fun bt380 => ((arraslaw1_num.f bt376.2).bind fun t382 => (if t382 = 0 then ((arraslaw1_num.f bt378.2).bind fun t383 => (if t383 = 0 then ((arraslaw1_num.f bt380.2).bind fun t384 => (if t384 = 0 then (if bt376.1 = bt378.1 then (if bt380.1 = (wrap64 (t371 - 536870912)) then (arraslaw1_FixedLaws.j2 kj1 l0 x3_1 (wrap64 (t371 - 536870912)) (wrap64 (t373 - 536870912)) (wrap64 (1 + t375)) (bt376.1 != (wrap64 ((wrap64 (t371 - 536870912)) + (wrap64 (t373 - 536870912)))))) else (arraslaw1_FixedLaws.j2 kj1 l0 x3_1 (wrap64 (t371 - 536870912)) (wrap64 (t373 - 536870912)) (wrap64 (1 + t375)) true)) else (arraslaw1_FixedLaws.j2 kj1 l0 x3_1 (wrap64 (t371 - 536870912)) (wrap64 (t373 - 536870912)) (wrap64 (1 + t375)) true)) else (arraslaw1_FixedLaws.j2 kj1 l0 x3_1 (wrap64 (t371 - 536870912)) (wrap64 (t373 - 536870912)) (wrap64 (1 + t375)) true))) else (arraslaw1_FixedLaws.j2 kj1 l0 x3_1 (wrap64 (t371 - 536870912)) (wrap64 (t373 - 536870912)) (wrap64 (1 + t375)) true))) else (arraslaw1_FixedLaws.j2 kj1 l0 x3_1 (wrap64 (t371 - 536870912)) (wrap64 (t373 - 536870912)) (wrap64 (1 + t375)) true)))))) = some r := H
                        have A15 := Aside0.mk A150
                        clear A150
                        replace H := Option.bind_eq_some_iff.mp H
                        obtain ⟨⟨t376, t377⟩, A160, H⟩ := H
                        replace H : ((fixed_Add.f kj1 (wrap64 (t373 - 536870912)) (wrap64 (t371 - 536870912))).bind fun bt378 => ((fixed_Sub.f t376 (wrap64 (t373 - 536870912))).bind fun bt380 => ((arraslaw1_num.f t377).bind fun t382 => (if t382 = 0 then ((arraslaw1_num.f bt378.2).bind fun t383 => (if t383 = 0 then ((arraslaw1_num.f bt380.2).bind fun t384 => (if t384 = 0 then (if t376 = bt378.1 then (if bt380.1 = (wrap64 (t371 - 536870912)) then (arraslaw1_FixedLaws.j2 kj1 l0 x3_1 (wrap64 (t371 - 536870912)) (wrap64 (t373 - 536870912)) (wrap64 (1 + t375)) (t376 != (wrap64 ((wrap64 (t371 - 536870912)) + (wrap64 (t373 - 536870912)))))) else (arraslaw1_FixedLaws.j2 kj1 l0 x3_1 (wrap64 (t371 - 536870912)) (wrap64 (t373 - 536870912)) (wrap64 (1 + t375)) true)) else (arraslaw1_FixedLaws.j2 kj1 l0 x3_1 (wrap64 (t371 - 536870912)) (wrap64 (t373 - 536870912)) (wrap64 (1 + t375)) true)) else (arraslaw1_FixedLaws.j2 kj1 l0 x3_1 (wrap64 (t371 - 536870912)) (wrap64 (t373 - 536870912)) (wrap64 (1 + t375)) true))) else (arraslaw1_FixedLaws.j2 kj1 l0 x3_1 (wrap64 (t371 - 536870912)) (wrap64 (t373 - 536870912)) (wrap64 (1 + t375)) true))) else (arraslaw1_FixedLaws.j2 kj1 l0 x3_1 (wrap64 (t371 - 536870912)) (wrap64 (t373 - 536870912)) (wrap64 (1 + t375)) true))))) = some r := H
                        have A16 := Aside0.mk A160
                        clear A160
                        replace H := Option.bind_eq_some_iff.mp H
                        obtain ⟨⟨t378, t379⟩, A170, H⟩ := H
                        replace H : ((fixed_Sub.f t376 (wrap64 (t373 - 536870912))).bind fun bt380 => ((arraslaw1_num.f t377).bind fun t382 => (if t382 = 0 then ((arraslaw1_num.f t379).bind fun t383 => (if t383 = 0 then ((arraslaw1_num.f bt380.2).bind fun t384 => (if t384 = 0 then (if t376 = t378 then (if bt380.1 = (wrap64 (t371 - 536870912)) then (arraslaw1_FixedLaws.j2 kj1 l0 x3_1 (wrap64 (t371 - 536870912)) (wrap64 (t373 - 536870912)) (wrap64 (1 + t375)) (t376 != (wrap64 ((wrap64 (t371 - 536870912)) + (wrap64 (t373 - 536870912)))))) else (arraslaw1_FixedLaws.j2 kj1 l0 x3_1 (wrap64 (t371 - 536870912)) (wrap64 (t373 - 536870912)) (wrap64 (1 + t375)) true)) else (arraslaw1_FixedLaws.j2 kj1 l0 x3_1 (wrap64 (t371 - 536870912)) (wrap64 (t373 - 536870912)) (wrap64 (1 + t375)) true)) else (arraslaw1_FixedLaws.j2 kj1 l0 x3_1 (wrap64 (t371 - 536870912)) (wrap64 (t373 - 536870912)) (wrap64 (1 + t375)) true))) else (arraslaw1_FixedLaws.j2 kj1 l0 x3_1 (wrap64 (t371 - 536870912)) (wrap64 (t373 - 536870912)) (wrap64 (1 + t375)) true))) else (arraslaw1_FixedLaws.j2 kj1 l0 x3_1 (wrap64 (t371 - 536870912)) (wrap64 (t373 - 536870912)) (wrap64 (1 + t375)) true)))) = some r := H
                        have A17 := Aside0.mk A170
                        clear A170
                        replace H := Option.bind_eq_some_iff.mp H
                        obtain ⟨⟨t380, t381⟩, A180, H⟩ := H
                        replace H : ((arraslaw1_num.f t377).bind fun t382 => (if t382 = 0 then ((arraslaw1_num.f t379).bind fun t383 => (if t383 = 0 then ((arraslaw1_num.f t381).bind fun t384 => (if t384 = 0 then (if t376 = t378 then (if t380 = (wrap64 (t371 - 536870912)) then (arraslaw1_FixedLaws.j2 kj1 l0 x3_1 (wrap64 (t371 - 536870912)) (wrap64 (t373 - 536870912)) (wrap64 (1 + t375)) (t376 != (wrap64 ((wrap64 (t371 - 536870912)) + (wrap64 (t373 - 536870912)))))) else (arraslaw1_FixedLaws.j2 kj1 l0 x3_1 (wrap64 (t371 - 536870912)) (wrap64 (t373 - 536870912)) (wrap64 (1 + t375)) true)) else (arraslaw1_FixedLaws.j2 kj1 l0 x3_1 (wrap64 (t371 - 536870912)) (wrap64 (t373 - 536870912)) (wrap64 (1 + t375)) true)) else (arraslaw1_FixedLaws.j2 kj1 l0 x3_1 (wrap64 (t371 - 536870912)) (wrap64 (t373 - 536870912)) (wrap64 (1 + t375)) true))) else (arraslaw1_FixedLaws.j2 kj1 l0 x3_1 (wrap64 (t371 - 536870912)) (wrap64 (t373 - 536870912)) (wrap64 (1 + t375)) true))) else (arraslaw1_FixedLaws.j2 kj1 l0 x3_1 (wrap64 (t371 - 536870912)) (wrap64 (t373 - 536870912)) (wrap64 (1 + t375)) true))) = some r := H
                        have A18 := Aside0.mk A180
                        clear A180
                        have HC19 := Aside0.mk H
                        clear H
                        have p370 : 0 ≤ (x3_1 : Int) := of_decide_eq_true (by first | (with_reducible assumption) | assumption)
                        have q370 : x3_1 < (l0.length : Int) := of_decide_eq_true (by first | (with_reducible assumption) | assumption)
                        obtain ⟨ad370, e370, hx370_0⟩ := Kd.at_int HR0.out x3_1 p370 q370
                        cases e370
                        replace hx370_0 := (HB.out.cell (World.block_lt_of_cell? w _ hx370_0)).trans hx370_0
                        replace p370 := eq_true p370
                        replace q370 := eq_true q370
                        go_upto_region 8 with (first | (go_at_call 22; (with_reducible refine (arraslaw0_Within.calls (rd l0 x3_1) 1073741824 t371 _ A7.out).mono ?_); rintro e w' ⟨rfl, ⟨nd, rfl⟩⟩; (try first | exact ⟨rfl, _, World.drewN_drewN _ _ _⟩ | exact ⟨rfl, _, Eq.trans (World.drewN_drewN _ _ _) (congrArg (World.drewN _) (Nat.add_assoc _ _ _))⟩); have p372 : 0 ≤ ((ji8) : Int) := of_decide_eq_true (by first | (with_reducible assumption) | assumption); have q372 : (ji8) < (l0.length : Int) := of_decide_eq_true (by first | (with_reducible assumption) | assumption); obtain ⟨ad372, e372, hx372_0⟩ := Kd.at_int HR0.out (ji8) p372 q372; obtain rfl : ad370 = ad372 := (by injection e372); replace hx372_0 := (HB.out.cell (World.block_lt_of_cell? w _ hx372_0)).trans hx372_0; replace p372 := eq_true p372; replace q372 := eq_true q372) | (go_at_call 22; (with_reducible refine (arraslaw0_Within.calls (rd l0 (ji8)) 1073741824 t373 _ A11.out).mono ?_); rintro e w' ⟨rfl, ⟨nd, rfl⟩⟩; (try first | exact ⟨rfl, _, World.drewN_drewN _ _ _⟩ | exact ⟨rfl, _, Eq.trans (World.drewN_drewN _ _ _) (congrArg (World.drewN _) (Nat.add_assoc _ _ _))⟩); have p374 : 0 ≤ ((ji12) : Int) := of_decide_eq_true (by first | (with_reducible assumption) | assumption); have q374 : (ji12) < (l0.length : Int) := of_decide_eq_true (by first | (with_reducible assumption) | assumption); obtain ⟨ad374, e374, hx374_0⟩ := Kd.at_int HR0.out (ji12) p374 q374; obtain rfl : ad370 = ad374 := (by injection e374); replace hx374_0 := (HB.out.cell (World.block_lt_of_cell? w _ hx374_0)).trans hx374_0; replace p374 := eq_true p374; replace q374 := eq_true q374) | (go_at_call 22; (with_reducible refine (arraslaw0_Within.calls (rd l0 (ji12)) 1073741824 t375 _ A15.out).mono ?_); rintro e w' ⟨rfl, ⟨nd, rfl⟩⟩; (try first | exact ⟨rfl, _, World.drewN_drewN _ _ _⟩ | exact ⟨rfl, _, Eq.trans (World.drewN_drewN _ _ _) (congrArg (World.drewN _) (Nat.add_assoc _ _ _))⟩)) | (go_at_call 33; (with_reducible refine (fixed_Add.calls kj1 (wrap64 (t371 - 536870912)) (wrap64 (t373 - 536870912)) t376 t377 _ A16.out).mono ?_); rintro e w20 ⟨rfl, hb⟩; have n0_ := Aside0.mk (below_step (by repeat (first | (with_reducible first | exact HB.out | apply below_alloc | apply pw_below_drewN | apply below_drew1) | exact HB.out)) hb); clear HB; have HB := n0_; clear n0_; (try clear hb); (try clear hb2); (try clear hk); (try clear hi)) | (go_at_call 33; (with_reducible refine (fixed_Add.calls kj1 (wrap64 (t373 - 536870912)) (wrap64 (t371 - 536870912)) t378 t379 _ A17.out).mono ?_); rintro e w21 ⟨rfl, hb⟩; have n0_ := Aside0.mk (below_step (by repeat (first | (with_reducible first | exact HB.out | apply below_alloc | apply pw_below_drewN | apply below_drew1) | exact HB.out)) hb); clear HB; have HB := n0_; clear n0_; (try clear hb); (try clear hb2); (try clear hk); (try clear hi)) | (go_at_call 34; (with_reducible refine (fixed_Sub.calls t376 (wrap64 (t373 - 536870912)) t380 t381 _ A18.out).mono ?_); rintro e w22 ⟨rfl, hb⟩; have n0_ := Aside0.mk (below_step (by repeat (first | (with_reducible first | exact HB.out | apply below_alloc | apply pw_below_drewN | apply below_drew1) | exact HB.out)) hb); clear HB; have HB := n0_; clear n0_; (try clear hb); (try clear hb2); (try clear hk); (try clear hi)))
                        repeat (go_quiet (first | (go_at_call 22; (with_reducible refine (arraslaw0_Within.calls (rd l0 x3_1) 1073741824 t371 _ A7.out).mono ?_); rintro e w' ⟨rfl, ⟨nd, rfl⟩⟩; (try first | exact ⟨rfl, _, World.drewN_drewN _ _ _⟩ | exact ⟨rfl, _, Eq.trans (World.drewN_drewN _ _ _) (congrArg (World.drewN _) (Nat.add_assoc _ _ _))⟩); have p372 : 0 ≤ ((ji8) : Int) := of_decide_eq_true (by first | (with_reducible assumption) | assumption); have q372 : (ji8) < (l0.length : Int) := of_decide_eq_true (by first | (with_reducible assumption) | assumption); obtain ⟨ad372, e372, hx372_0⟩ := Kd.at_int HR0.out (ji8) p372 q372; obtain rfl : ad370 = ad372 := (by injection e372); replace hx372_0 := (HB.out.cell (World.block_lt_of_cell? w _ hx372_0)).trans hx372_0; replace p372 := eq_true p372; replace q372 := eq_true q372) | (go_at_call 22; (with_reducible refine (arraslaw0_Within.calls (rd l0 (ji8)) 1073741824 t373 _ A11.out).mono ?_); rintro e w' ⟨rfl, ⟨nd, rfl⟩⟩; (try first | exact ⟨rfl, _, World.drewN_drewN _ _ _⟩ | exact ⟨rfl, _, Eq.trans (World.drewN_drewN _ _ _) (congrArg (World.drewN _) (Nat.add_assoc _ _ _))⟩); have p374 : 0 ≤ ((ji12) : Int) := of_decide_eq_true (by first | (with_reducible assumption) | assumption); have q374 : (ji12) < (l0.length : Int) := of_decide_eq_true (by first | (with_reducible assumption) | assumption); obtain ⟨ad374, e374, hx374_0⟩ := Kd.at_int HR0.out (ji12) p374 q374; obtain rfl : ad370 = ad374 := (by injection e374); replace hx374_0 := (HB.out.cell (World.block_lt_of_cell? w _ hx374_0)).trans hx374_0; replace p374 := eq_true p374; replace q374 := eq_true q374) | (go_at_call 22; (with_reducible refine (arraslaw0_Within.calls (rd l0 (ji12)) 1073741824 t375 _ A15.out).mono ?_); rintro e w' ⟨rfl, ⟨nd, rfl⟩⟩; (try first | exact ⟨rfl, _, World.drewN_drewN _ _ _⟩ | exact ⟨rfl, _, Eq.trans (World.drewN_drewN _ _ _) (congrArg (World.drewN _) (Nat.add_assoc _ _ _))⟩)) | (go_at_call 33; (with_reducible refine (fixed_Add.calls kj1 (wrap64 (t371 - 536870912)) (wrap64 (t373 - 536870912)) t376 t377 _ A16.out).mono ?_); rintro e w20 ⟨rfl, hb⟩; have n0_ := Aside0.mk (below_step (by repeat (first | (with_reducible first | exact HB.out | apply below_alloc | apply pw_below_drewN | apply below_drew1) | exact HB.out)) hb); clear HB; have HB := n0_; clear n0_; (try clear hb); (try clear hb2); (try clear hk); (try clear hi)) | (go_at_call 33; (with_reducible refine (fixed_Add.calls kj1 (wrap64 (t373 - 536870912)) (wrap64 (t371 - 536870912)) t378 t379 _ A17.out).mono ?_); rintro e w21 ⟨rfl, hb⟩; have n0_ := Aside0.mk (below_step (by repeat (first | (with_reducible first | exact HB.out | apply below_alloc | apply pw_below_drewN | apply below_drew1) | exact HB.out)) hb); clear HB; have HB := n0_; clear n0_; (try clear hb); (try clear hb2); (try clear hk); (try clear hi)) | (go_at_call 34; (with_reducible refine (fixed_Sub.calls t376 (wrap64 (t373 - 536870912)) t380 t381 _ A18.out).mono ?_); rintro e w22 ⟨rfl, hb⟩; have n0_ := Aside0.mk (below_step (by repeat (first | (with_reducible first | exact HB.out | apply below_alloc | apply pw_below_drewN | apply below_drew1) | exact HB.out)) hb); clear HB; have HB := n0_; clear n0_; (try clear hb); (try clear hb2); (try clear hk); (try clear hi))); go_upto_region 8 with (first | (go_at_call 22; (with_reducible refine (arraslaw0_Within.calls (rd l0 x3_1) 1073741824 t371 _ A7.out).mono ?_); rintro e w' ⟨rfl, ⟨nd, rfl⟩⟩; (try first | exact ⟨rfl, _, World.drewN_drewN _ _ _⟩ | exact ⟨rfl, _, Eq.trans (World.drewN_drewN _ _ _) (congrArg (World.drewN _) (Nat.add_assoc _ _ _))⟩); have p372 : 0 ≤ ((ji8) : Int) := of_decide_eq_true (by first | (with_reducible assumption) | assumption); have q372 : (ji8) < (l0.length : Int) := of_decide_eq_true (by first | (with_reducible assumption) | assumption); obtain ⟨ad372, e372, hx372_0⟩ := Kd.at_int HR0.out (ji8) p372 q372; obtain rfl : ad370 = ad372 := (by injection e372); replace hx372_0 := (HB.out.cell (World.block_lt_of_cell? w _ hx372_0)).trans hx372_0; replace p372 := eq_true p372; replace q372 := eq_true q372) | (go_at_call 22; (with_reducible refine (arraslaw0_Within.calls (rd l0 (ji8)) 1073741824 t373 _ A11.out).mono ?_); rintro e w' ⟨rfl, ⟨nd, rfl⟩⟩; (try first | exact ⟨rfl, _, World.drewN_drewN _ _ _⟩ | exact ⟨rfl, _, Eq.trans (World.drewN_drewN _ _ _) (congrArg (World.drewN _) (Nat.add_assoc _ _ _))⟩); have p374 : 0 ≤ ((ji12) : Int) := of_decide_eq_true (by first | (with_reducible assumption) | assumption); have q374 : (ji12) < (l0.length : Int) := of_decide_eq_true (by first | (with_reducible assumption) | assumption); obtain ⟨ad374, e374, hx374_0⟩ := Kd.at_int HR0.out (ji12) p374 q374; obtain rfl : ad370 = ad374 := (by injection e374); replace hx374_0 := (HB.out.cell (World.block_lt_of_cell? w _ hx374_0)).trans hx374_0; replace p374 := eq_true p374; replace q374 := eq_true q374) | (go_at_call 22; (with_reducible refine (arraslaw0_Within.calls (rd l0 (ji12)) 1073741824 t375 _ A15.out).mono ?_); rintro e w' ⟨rfl, ⟨nd, rfl⟩⟩; (try first | exact ⟨rfl, _, World.drewN_drewN _ _ _⟩ | exact ⟨rfl, _, Eq.trans (World.drewN_drewN _ _ _) (congrArg (World.drewN _) (Nat.add_assoc _ _ _))⟩)) | (go_at_call 33; (with_reducible refine (fixed_Add.calls kj1 (wrap64 (t371 - 536870912)) (wrap64 (t373 - 536870912)) t376 t377 _ A16.out).mono ?_); rintro e w20 ⟨rfl, hb⟩; have n0_ := Aside0.mk (below_step (by repeat (first | (with_reducible first | exact HB.out | apply below_alloc | apply pw_below_drewN | apply below_drew1) | exact HB.out)) hb); clear HB; have HB := n0_; clear n0_; (try clear hb); (try clear hb2); (try clear hk); (try clear hi)) | (go_at_call 33; (with_reducible refine (fixed_Add.calls kj1 (wrap64 (t373 - 536870912)) (wrap64 (t371 - 536870912)) t378 t379 _ A17.out).mono ?_); rintro e w21 ⟨rfl, hb⟩; have n0_ := Aside0.mk (below_step (by repeat (first | (with_reducible first | exact HB.out | apply below_alloc | apply pw_below_drewN | apply below_drew1) | exact HB.out)) hb); clear HB; have HB := n0_; clear n0_; (try clear hb); (try clear hb2); (try clear hk); (try clear hi)) | (go_at_call 34; (with_reducible refine (fixed_Sub.calls t376 (wrap64 (t373 - 536870912)) t380 t381 _ A18.out).mono ?_); rintro e w22 ⟨rfl, hb⟩; have n0_ := Aside0.mk (below_step (by repeat (first | (with_reducible first | exact HB.out | apply below_alloc | apply pw_below_drewN | apply below_drew1) | exact HB.out)) hb); clear HB; have HB := n0_; clear n0_; (try clear hb); (try clear hb2); (try clear hk); (try clear hi))))
                        (try simp only [Act.put, List.setIfInBounds_toArray, List.set_cons_zero, List.set_cons_succ])
                        go_cut [94] (fun v94 wc => ∃ (kq : Nat) (x94_18 : Bool), v94 = .bool x94_18 ∧ Aside0 (arraslaw1_FixedLaws.j2 kq l0 x3_1 (wrap64 (t371 - 536870912)) (wrap64 (t373 - 536870912)) (wrap64 (1 + t375)) x94_18 = some r) ∧ Aside0 (kq ≤ kj1) ∧ Aside0 (Below w.heap.size w wc))
                        case first =>
                          have H := HC19.out
                          clear HC19
                          replace H := Option.bind_eq_some_iff.mp H
                          obtain ⟨t382, A230, H⟩ := H
                          replace H : (if t382 = 0 then ((arraslaw1_num.f t379).bind fun t383 => (if t383 = 0 then ((arraslaw1_num.f t381).bind fun t384 => (if t384 = 0 then (if t376 = t378 then (if t380 = (wrap64 (t371 - 536870912)) then (arraslaw1_FixedLaws.j2 kj1 l0 x3_1 (wrap64 (t371 - 536870912)) (wrap64 (t373 - 536870912)) (wrap64 (1 + t375)) (t376 != (wrap64 ((wrap64 (t371 - 536870912)) + (wrap64 (t373 - 536870912)))))) else (arraslaw1_FixedLaws.j2 kj1 l0 x3_1 (wrap64 (t371 - 536870912)) (wrap64 (t373 - 536870912)) (wrap64 (1 + t375)) true)) else (arraslaw1_FixedLaws.j2 kj1 l0 x3_1 (wrap64 (t371 - 536870912)) (wrap64 (t373 - 536870912)) (wrap64 (1 + t375)) true)) else (arraslaw1_FixedLaws.j2 kj1 l0 x3_1 (wrap64 (t371 - 536870912)) (wrap64 (t373 - 536870912)) (wrap64 (1 + t375)) true))) else (arraslaw1_FixedLaws.j2 kj1 l0 x3_1 (wrap64 (t371 - 536870912)) (wrap64 (t373 - 536870912)) (wrap64 (1 + t375)) true))) else (arraslaw1_FixedLaws.j2 kj1 l0 x3_1 (wrap64 (t371 - 536870912)) (wrap64 (t373 - 536870912)) (wrap64 (1 + t375)) true)) = some r := H
                          have A23 := Aside0.mk A230
                          clear A230
                          by_cases c24 : t382 = 0
                          · rw [if_pos c24] at H
                            have c24b0 : (t382 == 0) = true := beq_iff_eq.mpr c24
                            have c24b1 : (t382 != 0) = false := bne_eq_false_iff_eq.mpr c24
                            clear c24
                            (first | rw [c24b0] | (simp only [i64_w, i32_w]; rw [c24b0]) | skip)
                            replace H := Option.bind_eq_some_iff.mp H
                            obtain ⟨t383, A250, H⟩ := H
                            replace H : (if t383 = 0 then ((arraslaw1_num.f t381).bind fun t384 => (if t384 = 0 then (if t376 = t378 then (if t380 = (wrap64 (t371 - 536870912)) then (arraslaw1_FixedLaws.j2 kj1 l0 x3_1 (wrap64 (t371 - 536870912)) (wrap64 (t373 - 536870912)) (wrap64 (1 + t375)) (t376 != (wrap64 ((wrap64 (t371 - 536870912)) + (wrap64 (t373 - 536870912)))))) else (arraslaw1_FixedLaws.j2 kj1 l0 x3_1 (wrap64 (t371 - 536870912)) (wrap64 (t373 - 536870912)) (wrap64 (1 + t375)) true)) else (arraslaw1_FixedLaws.j2 kj1 l0 x3_1 (wrap64 (t371 - 536870912)) (wrap64 (t373 - 536870912)) (wrap64 (1 + t375)) true)) else (arraslaw1_FixedLaws.j2 kj1 l0 x3_1 (wrap64 (t371 - 536870912)) (wrap64 (t373 - 536870912)) (wrap64 (1 + t375)) true))) else (arraslaw1_FixedLaws.j2 kj1 l0 x3_1 (wrap64 (t371 - 536870912)) (wrap64 (t373 - 536870912)) (wrap64 (1 + t375)) true)) = some r := H
                            have A25 := Aside0.mk A250
                            clear A250
                            by_cases c26 : t383 = 0
                            · rw [if_pos c26] at H
                              have c26b0 : (t383 == 0) = true := beq_iff_eq.mpr c26
                              have c26b1 : (t383 != 0) = false := bne_eq_false_iff_eq.mpr c26
                              clear c26
                              replace H := Option.bind_eq_some_iff.mp H
                              obtain ⟨t384, A270, H⟩ := H
                              replace H : (if t384 = 0 then (if t376 = t378 then (if t380 = (wrap64 (t371 - 536870912)) then (arraslaw1_FixedLaws.j2 kj1 l0 x3_1 (wrap64 (t371 - 536870912)) (wrap64 (t373 - 536870912)) (wrap64 (1 + t375)) (t376 != (wrap64 ((wrap64 (t371 - 536870912)) + (wrap64 (t373 - 536870912)))))) else (arraslaw1_FixedLaws.j2 kj1 l0 x3_1 (wrap64 (t371 - 536870912)) (wrap64 (t373 - 536870912)) (wrap64 (1 + t375)) true)) else (arraslaw1_FixedLaws.j2 kj1 l0 x3_1 (wrap64 (t371 - 536870912)) (wrap64 (t373 - 536870912)) (wrap64 (1 + t375)) true)) else (arraslaw1_FixedLaws.j2 kj1 l0 x3_1 (wrap64 (t371 - 536870912)) (wrap64 (t373 - 536870912)) (wrap64 (1 + t375)) true)) = some r := H
                              have A27 := Aside0.mk A270
                              clear A270
                              by_cases c28 : t384 = 0
                              · rw [if_pos c28] at H
                                have c28b0 : (t384 == 0) = true := beq_iff_eq.mpr c28
                                have c28b1 : (t384 != 0) = false := bne_eq_false_iff_eq.mpr c28
                                clear c28
                                by_cases c29 : t376 = t378
                                · rw [if_pos c29] at H
                                  have c29b0 : (t376 == t378) = true := beq_iff_eq.mpr c29
                                  have c29b1 : (t376 != t378) = false := bne_eq_false_iff_eq.mpr c29
                                  clear c29
                                  by_cases c30 : t380 = (wrap64 (t371 - 536870912))
                                  · rw [if_pos c30] at H
                                    have c30b0 : (t380 == (wrap64 (t371 - 536870912))) = true := beq_iff_eq.mpr c30
                                    have c30b1 : (t380 != (wrap64 (t371 - 536870912))) = false := bne_eq_false_iff_eq.mpr c30
                                    clear c30
                                    have H' := Aside0.mk H
                                    clear H
                                    go_wp2_with (first | (go_at_call 35; (with_reducible refine (arraslaw1_num.calls t377 t382 _ A23.out).mono ?_); rintro e w' ⟨rfl, ⟨nd, rfl⟩⟩; (try first | exact ⟨rfl, _, World.drewN_drewN _ _ _⟩ | exact ⟨rfl, _, Eq.trans (World.drewN_drewN _ _ _) (congrArg (World.drewN _) (Nat.add_assoc _ _ _))⟩)) | (go_at_call 35; (with_reducible refine (arraslaw1_num.calls t379 t383 _ A25.out).mono ?_); rintro e w' ⟨rfl, ⟨nd, rfl⟩⟩; (try first | exact ⟨rfl, _, World.drewN_drewN _ _ _⟩ | exact ⟨rfl, _, Eq.trans (World.drewN_drewN _ _ _) (congrArg (World.drewN _) (Nat.add_assoc _ _ _))⟩)) | (go_at_call 35; (with_reducible refine (arraslaw1_num.calls t381 t384 _ A27.out).mono ?_); rintro e w' ⟨rfl, ⟨nd, rfl⟩⟩; (try first | exact ⟨rfl, _, World.drewN_drewN _ _ _⟩ | exact ⟨rfl, _, Eq.trans (World.drewN_drewN _ _ _) (congrArg (World.drewN _) (Nat.add_assoc _ _ _))⟩)))
                                    repeat (go_quiet (first | (go_at_call 35; (with_reducible refine (arraslaw1_num.calls t377 t382 _ A23.out).mono ?_); rintro e w' ⟨rfl, ⟨nd, rfl⟩⟩; (try first | exact ⟨rfl, _, World.drewN_drewN _ _ _⟩ | exact ⟨rfl, _, Eq.trans (World.drewN_drewN _ _ _) (congrArg (World.drewN _) (Nat.add_assoc _ _ _))⟩)) | (go_at_call 35; (with_reducible refine (arraslaw1_num.calls t379 t383 _ A25.out).mono ?_); rintro e w' ⟨rfl, ⟨nd, rfl⟩⟩; (try first | exact ⟨rfl, _, World.drewN_drewN _ _ _⟩ | exact ⟨rfl, _, Eq.trans (World.drewN_drewN _ _ _) (congrArg (World.drewN _) (Nat.add_assoc _ _ _))⟩)) | (go_at_call 35; (with_reducible refine (arraslaw1_num.calls t381 t384 _ A27.out).mono ?_); rintro e w' ⟨rfl, ⟨nd, rfl⟩⟩; (try first | exact ⟨rfl, _, World.drewN_drewN _ _ _⟩ | exact ⟨rfl, _, Eq.trans (World.drewN_drewN _ _ _) (congrArg (World.drewN _) (Nat.add_assoc _ _ _))⟩))); try go_wp2_with (first | (go_at_call 35; (with_reducible refine (arraslaw1_num.calls t377 t382 _ A23.out).mono ?_); rintro e w' ⟨rfl, ⟨nd, rfl⟩⟩; (try first | exact ⟨rfl, _, World.drewN_drewN _ _ _⟩ | exact ⟨rfl, _, Eq.trans (World.drewN_drewN _ _ _) (congrArg (World.drewN _) (Nat.add_assoc _ _ _))⟩)) | (go_at_call 35; (with_reducible refine (arraslaw1_num.calls t379 t383 _ A25.out).mono ?_); rintro e w' ⟨rfl, ⟨nd, rfl⟩⟩; (try first | exact ⟨rfl, _, World.drewN_drewN _ _ _⟩ | exact ⟨rfl, _, Eq.trans (World.drewN_drewN _ _ _) (congrArg (World.drewN _) (Nat.add_assoc _ _ _))⟩)) | (go_at_call 35; (with_reducible refine (arraslaw1_num.calls t381 t384 _ A27.out).mono ?_); rintro e w' ⟨rfl, ⟨nd, rfl⟩⟩; (try first | exact ⟨rfl, _, World.drewN_drewN _ _ _⟩ | exact ⟨rfl, _, Eq.trans (World.drewN_drewN _ _ _) (congrArg (World.drewN _) (Nat.add_assoc _ _ _))⟩))))
                                    go_meet
                                    case rel => exact ⟨_, ((t376 != (wrap64 ((wrap64 (t371 - 536870912)) + (wrap64 (t373 - 536870912)))))), (by first | rfl | (simp; done) | (simp [*]; done)), H', ⟨by have := HK1.out; have := HJ1.out; first | omega | exact Nat.le_refl _⟩, ⟨by repeat (first | (with_reducible first | exact HB.out | apply below_alloc | apply pw_below_drewN | apply below_drew1) | exact HB.out)⟩⟩
                                  · rw [if_neg c30] at H
                                    have c30b0 : (t380 == (wrap64 (t371 - 536870912))) = false := beq_eq_false_iff_ne.mpr c30
                                    have c30b1 : (t380 != (wrap64 (t371 - 536870912))) = true := bne_iff_ne.mpr c30
                                    have H' := Aside0.mk H
                                    clear H
                                    go_wp2_with (first | (go_at_call 35; (with_reducible refine (arraslaw1_num.calls t377 t382 _ A23.out).mono ?_); rintro e w' ⟨rfl, ⟨nd, rfl⟩⟩; (try first | exact ⟨rfl, _, World.drewN_drewN _ _ _⟩ | exact ⟨rfl, _, Eq.trans (World.drewN_drewN _ _ _) (congrArg (World.drewN _) (Nat.add_assoc _ _ _))⟩)) | (go_at_call 35; (with_reducible refine (arraslaw1_num.calls t379 t383 _ A25.out).mono ?_); rintro e w' ⟨rfl, ⟨nd, rfl⟩⟩; (try first | exact ⟨rfl, _, World.drewN_drewN _ _ _⟩ | exact ⟨rfl, _, Eq.trans (World.drewN_drewN _ _ _) (congrArg (World.drewN _) (Nat.add_assoc _ _ _))⟩)) | (go_at_call 35; (with_reducible refine (arraslaw1_num.calls t381 t384 _ A27.out).mono ?_); rintro e w' ⟨rfl, ⟨nd, rfl⟩⟩; (try first | exact ⟨rfl, _, World.drewN_drewN _ _ _⟩ | exact ⟨rfl, _, Eq.trans (World.drewN_drewN _ _ _) (congrArg (World.drewN _) (Nat.add_assoc _ _ _))⟩)))
                                    repeat (go_quiet (first | (go_at_call 35; (with_reducible refine (arraslaw1_num.calls t377 t382 _ A23.out).mono ?_); rintro e w' ⟨rfl, ⟨nd, rfl⟩⟩; (try first | exact ⟨rfl, _, World.drewN_drewN _ _ _⟩ | exact ⟨rfl, _, Eq.trans (World.drewN_drewN _ _ _) (congrArg (World.drewN _) (Nat.add_assoc _ _ _))⟩)) | (go_at_call 35; (with_reducible refine (arraslaw1_num.calls t379 t383 _ A25.out).mono ?_); rintro e w' ⟨rfl, ⟨nd, rfl⟩⟩; (try first | exact ⟨rfl, _, World.drewN_drewN _ _ _⟩ | exact ⟨rfl, _, Eq.trans (World.drewN_drewN _ _ _) (congrArg (World.drewN _) (Nat.add_assoc _ _ _))⟩)) | (go_at_call 35; (with_reducible refine (arraslaw1_num.calls t381 t384 _ A27.out).mono ?_); rintro e w' ⟨rfl, ⟨nd, rfl⟩⟩; (try first | exact ⟨rfl, _, World.drewN_drewN _ _ _⟩ | exact ⟨rfl, _, Eq.trans (World.drewN_drewN _ _ _) (congrArg (World.drewN _) (Nat.add_assoc _ _ _))⟩))); try go_wp2_with (first | (go_at_call 35; (with_reducible refine (arraslaw1_num.calls t377 t382 _ A23.out).mono ?_); rintro e w' ⟨rfl, ⟨nd, rfl⟩⟩; (try first | exact ⟨rfl, _, World.drewN_drewN _ _ _⟩ | exact ⟨rfl, _, Eq.trans (World.drewN_drewN _ _ _) (congrArg (World.drewN _) (Nat.add_assoc _ _ _))⟩)) | (go_at_call 35; (with_reducible refine (arraslaw1_num.calls t379 t383 _ A25.out).mono ?_); rintro e w' ⟨rfl, ⟨nd, rfl⟩⟩; (try first | exact ⟨rfl, _, World.drewN_drewN _ _ _⟩ | exact ⟨rfl, _, Eq.trans (World.drewN_drewN _ _ _) (congrArg (World.drewN _) (Nat.add_assoc _ _ _))⟩)) | (go_at_call 35; (with_reducible refine (arraslaw1_num.calls t381 t384 _ A27.out).mono ?_); rintro e w' ⟨rfl, ⟨nd, rfl⟩⟩; (try first | exact ⟨rfl, _, World.drewN_drewN _ _ _⟩ | exact ⟨rfl, _, Eq.trans (World.drewN_drewN _ _ _) (congrArg (World.drewN _) (Nat.add_assoc _ _ _))⟩))))
                                    go_meet
                                    case rel => exact ⟨_, (true), (by first | rfl | (simp; done) | (simp [*]; done)), H', ⟨by have := HK1.out; have := HJ1.out; first | omega | exact Nat.le_refl _⟩, ⟨by repeat (first | (with_reducible first | exact HB.out | apply below_alloc | apply pw_below_drewN | apply below_drew1) | exact HB.out)⟩⟩
                                · rw [if_neg c29] at H
                                  have c29b0 : (t376 == t378) = false := beq_eq_false_iff_ne.mpr c29
                                  have c29b1 : (t376 != t378) = true := bne_iff_ne.mpr c29
                                  have H' := Aside0.mk H
                                  clear H
                                  go_wp2_with (first | (go_at_call 35; (with_reducible refine (arraslaw1_num.calls t377 t382 _ A23.out).mono ?_); rintro e w' ⟨rfl, ⟨nd, rfl⟩⟩; (try first | exact ⟨rfl, _, World.drewN_drewN _ _ _⟩ | exact ⟨rfl, _, Eq.trans (World.drewN_drewN _ _ _) (congrArg (World.drewN _) (Nat.add_assoc _ _ _))⟩)) | (go_at_call 35; (with_reducible refine (arraslaw1_num.calls t379 t383 _ A25.out).mono ?_); rintro e w' ⟨rfl, ⟨nd, rfl⟩⟩; (try first | exact ⟨rfl, _, World.drewN_drewN _ _ _⟩ | exact ⟨rfl, _, Eq.trans (World.drewN_drewN _ _ _) (congrArg (World.drewN _) (Nat.add_assoc _ _ _))⟩)) | (go_at_call 35; (with_reducible refine (arraslaw1_num.calls t381 t384 _ A27.out).mono ?_); rintro e w' ⟨rfl, ⟨nd, rfl⟩⟩; (try first | exact ⟨rfl, _, World.drewN_drewN _ _ _⟩ | exact ⟨rfl, _, Eq.trans (World.drewN_drewN _ _ _) (congrArg (World.drewN _) (Nat.add_assoc _ _ _))⟩)))
                                  repeat (go_quiet (first | (go_at_call 35; (with_reducible refine (arraslaw1_num.calls t377 t382 _ A23.out).mono ?_); rintro e w' ⟨rfl, ⟨nd, rfl⟩⟩; (try first | exact ⟨rfl, _, World.drewN_drewN _ _ _⟩ | exact ⟨rfl, _, Eq.trans (World.drewN_drewN _ _ _) (congrArg (World.drewN _) (Nat.add_assoc _ _ _))⟩)) | (go_at_call 35; (with_reducible refine (arraslaw1_num.calls t379 t383 _ A25.out).mono ?_); rintro e w' ⟨rfl, ⟨nd, rfl⟩⟩; (try first | exact ⟨rfl, _, World.drewN_drewN _ _ _⟩ | exact ⟨rfl, _, Eq.trans (World.drewN_drewN _ _ _) (congrArg (World.drewN _) (Nat.add_assoc _ _ _))⟩)) | (go_at_call 35; (with_reducible refine (arraslaw1_num.calls t381 t384 _ A27.out).mono ?_); rintro e w' ⟨rfl, ⟨nd, rfl⟩⟩; (try first | exact ⟨rfl, _, World.drewN_drewN _ _ _⟩ | exact ⟨rfl, _, Eq.trans (World.drewN_drewN _ _ _) (congrArg (World.drewN _) (Nat.add_assoc _ _ _))⟩))); try go_wp2_with (first | (go_at_call 35; (with_reducible refine (arraslaw1_num.calls t377 t382 _ A23.out).mono ?_); rintro e w' ⟨rfl, ⟨nd, rfl⟩⟩; (try first | exact ⟨rfl, _, World.drewN_drewN _ _ _⟩ | exact ⟨rfl, _, Eq.trans (World.drewN_drewN _ _ _) (congrArg (World.drewN _) (Nat.add_assoc _ _ _))⟩)) | (go_at_call 35; (with_reducible refine (arraslaw1_num.calls t379 t383 _ A25.out).mono ?_); rintro e w' ⟨rfl, ⟨nd, rfl⟩⟩; (try first | exact ⟨rfl, _, World.drewN_drewN _ _ _⟩ | exact ⟨rfl, _, Eq.trans (World.drewN_drewN _ _ _) (congrArg (World.drewN _) (Nat.add_assoc _ _ _))⟩)) | (go_at_call 35; (with_reducible refine (arraslaw1_num.calls t381 t384 _ A27.out).mono ?_); rintro e w' ⟨rfl, ⟨nd, rfl⟩⟩; (try first | exact ⟨rfl, _, World.drewN_drewN _ _ _⟩ | exact ⟨rfl, _, Eq.trans (World.drewN_drewN _ _ _) (congrArg (World.drewN _) (Nat.add_assoc _ _ _))⟩))))
                                  go_meet
                                  case rel => exact ⟨_, (true), (by first | rfl | (simp; done) | (simp [*]; done)), H', ⟨by have := HK1.out; have := HJ1.out; first | omega | exact Nat.le_refl _⟩, ⟨by repeat (first | (with_reducible first | exact HB.out | apply below_alloc | apply pw_below_drewN | apply below_drew1) | exact HB.out)⟩⟩
                              · rw [if_neg c28] at H
                                have c28b0 : (t384 == 0) = false := beq_eq_false_iff_ne.mpr c28
                                have c28b1 : (t384 != 0) = true := bne_iff_ne.mpr c28
                                have H' := Aside0.mk H
                                clear H
                                go_wp2_with (first | (go_at_call 35; (with_reducible refine (arraslaw1_num.calls t377 t382 _ A23.out).mono ?_); rintro e w' ⟨rfl, ⟨nd, rfl⟩⟩; (try first | exact ⟨rfl, _, World.drewN_drewN _ _ _⟩ | exact ⟨rfl, _, Eq.trans (World.drewN_drewN _ _ _) (congrArg (World.drewN _) (Nat.add_assoc _ _ _))⟩)) | (go_at_call 35; (with_reducible refine (arraslaw1_num.calls t379 t383 _ A25.out).mono ?_); rintro e w' ⟨rfl, ⟨nd, rfl⟩⟩; (try first | exact ⟨rfl, _, World.drewN_drewN _ _ _⟩ | exact ⟨rfl, _, Eq.trans (World.drewN_drewN _ _ _) (congrArg (World.drewN _) (Nat.add_assoc _ _ _))⟩)) | (go_at_call 35; (with_reducible refine (arraslaw1_num.calls t381 t384 _ A27.out).mono ?_); rintro e w' ⟨rfl, ⟨nd, rfl⟩⟩; (try first | exact ⟨rfl, _, World.drewN_drewN _ _ _⟩ | exact ⟨rfl, _, Eq.trans (World.drewN_drewN _ _ _) (congrArg (World.drewN _) (Nat.add_assoc _ _ _))⟩)))
                                repeat (go_quiet (first | (go_at_call 35; (with_reducible refine (arraslaw1_num.calls t377 t382 _ A23.out).mono ?_); rintro e w' ⟨rfl, ⟨nd, rfl⟩⟩; (try first | exact ⟨rfl, _, World.drewN_drewN _ _ _⟩ | exact ⟨rfl, _, Eq.trans (World.drewN_drewN _ _ _) (congrArg (World.drewN _) (Nat.add_assoc _ _ _))⟩)) | (go_at_call 35; (with_reducible refine (arraslaw1_num.calls t379 t383 _ A25.out).mono ?_); rintro e w' ⟨rfl, ⟨nd, rfl⟩⟩; (try first | exact ⟨rfl, _, World.drewN_drewN _ _ _⟩ | exact ⟨rfl, _, Eq.trans (World.drewN_drewN _ _ _) (congrArg (World.drewN _) (Nat.add_assoc _ _ _))⟩)) | (go_at_call 35; (with_reducible refine (arraslaw1_num.calls t381 t384 _ A27.out).mono ?_); rintro e w' ⟨rfl, ⟨nd, rfl⟩⟩; (try first | exact ⟨rfl, _, World.drewN_drewN _ _ _⟩ | exact ⟨rfl, _, Eq.trans (World.drewN_drewN _ _ _) (congrArg (World.drewN _) (Nat.add_assoc _ _ _))⟩))); try go_wp2_with (first | (go_at_call 35; (with_reducible refine (arraslaw1_num.calls t377 t382 _ A23.out).mono ?_); rintro e w' ⟨rfl, ⟨nd, rfl⟩⟩; (try first | exact ⟨rfl, _, World.drewN_drewN _ _ _⟩ | exact ⟨rfl, _, Eq.trans (World.drewN_drewN _ _ _) (congrArg (World.drewN _) (Nat.add_assoc _ _ _))⟩)) | (go_at_call 35; (with_reducible refine (arraslaw1_num.calls t379 t383 _ A25.out).mono ?_); rintro e w' ⟨rfl, ⟨nd, rfl⟩⟩; (try first | exact ⟨rfl, _, World.drewN_drewN _ _ _⟩ | exact ⟨rfl, _, Eq.trans (World.drewN_drewN _ _ _) (congrArg (World.drewN _) (Nat.add_assoc _ _ _))⟩)) | (go_at_call 35; (with_reducible refine (arraslaw1_num.calls t381 t384 _ A27.out).mono ?_); rintro e w' ⟨rfl, ⟨nd, rfl⟩⟩; (try first | exact ⟨rfl, _, World.drewN_drewN _ _ _⟩ | exact ⟨rfl, _, Eq.trans (World.drewN_drewN _ _ _) (congrArg (World.drewN _) (Nat.add_assoc _ _ _))⟩))))
                                go_meet
                                case rel => exact ⟨_, (true), (by first | rfl | (simp; done) | (simp [*]; done)), H', ⟨by have := HK1.out; have := HJ1.out; first | omega | exact Nat.le_refl _⟩, ⟨by repeat (first | (with_reducible first | exact HB.out | apply below_alloc | apply pw_below_drewN | apply below_drew1) | exact HB.out)⟩⟩
                            · rw [if_neg c26] at H
                              have c26b0 : (t383 == 0) = false := beq_eq_false_iff_ne.mpr c26
                              have c26b1 : (t383 != 0) = true := bne_iff_ne.mpr c26
                              have H' := Aside0.mk H
                              clear H
                              go_wp2_with (first | (go_at_call 35; (with_reducible refine (arraslaw1_num.calls t377 t382 _ A23.out).mono ?_); rintro e w' ⟨rfl, ⟨nd, rfl⟩⟩; (try first | exact ⟨rfl, _, World.drewN_drewN _ _ _⟩ | exact ⟨rfl, _, Eq.trans (World.drewN_drewN _ _ _) (congrArg (World.drewN _) (Nat.add_assoc _ _ _))⟩)) | (go_at_call 35; (with_reducible refine (arraslaw1_num.calls t379 t383 _ A25.out).mono ?_); rintro e w' ⟨rfl, ⟨nd, rfl⟩⟩; (try first | exact ⟨rfl, _, World.drewN_drewN _ _ _⟩ | exact ⟨rfl, _, Eq.trans (World.drewN_drewN _ _ _) (congrArg (World.drewN _) (Nat.add_assoc _ _ _))⟩)))
                              repeat (go_quiet (first | (go_at_call 35; (with_reducible refine (arraslaw1_num.calls t377 t382 _ A23.out).mono ?_); rintro e w' ⟨rfl, ⟨nd, rfl⟩⟩; (try first | exact ⟨rfl, _, World.drewN_drewN _ _ _⟩ | exact ⟨rfl, _, Eq.trans (World.drewN_drewN _ _ _) (congrArg (World.drewN _) (Nat.add_assoc _ _ _))⟩)) | (go_at_call 35; (with_reducible refine (arraslaw1_num.calls t379 t383 _ A25.out).mono ?_); rintro e w' ⟨rfl, ⟨nd, rfl⟩⟩; (try first | exact ⟨rfl, _, World.drewN_drewN _ _ _⟩ | exact ⟨rfl, _, Eq.trans (World.drewN_drewN _ _ _) (congrArg (World.drewN _) (Nat.add_assoc _ _ _))⟩))); try go_wp2_with (first | (go_at_call 35; (with_reducible refine (arraslaw1_num.calls t377 t382 _ A23.out).mono ?_); rintro e w' ⟨rfl, ⟨nd, rfl⟩⟩; (try first | exact ⟨rfl, _, World.drewN_drewN _ _ _⟩ | exact ⟨rfl, _, Eq.trans (World.drewN_drewN _ _ _) (congrArg (World.drewN _) (Nat.add_assoc _ _ _))⟩)) | (go_at_call 35; (with_reducible refine (arraslaw1_num.calls t379 t383 _ A25.out).mono ?_); rintro e w' ⟨rfl, ⟨nd, rfl⟩⟩; (try first | exact ⟨rfl, _, World.drewN_drewN _ _ _⟩ | exact ⟨rfl, _, Eq.trans (World.drewN_drewN _ _ _) (congrArg (World.drewN _) (Nat.add_assoc _ _ _))⟩))))
                              go_meet
                              case rel => exact ⟨_, (true), (by first | rfl | (simp; done) | (simp [*]; done)), H', ⟨by have := HK1.out; have := HJ1.out; first | omega | exact Nat.le_refl _⟩, ⟨by repeat (first | (with_reducible first | exact HB.out | apply below_alloc | apply pw_below_drewN | apply below_drew1) | exact HB.out)⟩⟩
                          · rw [if_neg c24] at H
                            have c24b0 : (t382 == 0) = false := beq_eq_false_iff_ne.mpr c24
                            have c24b1 : (t382 != 0) = true := bne_iff_ne.mpr c24
                            (first | rw [c24b0] | (simp only [i64_w, i32_w]; rw [c24b0]) | skip)
                            have H' := Aside0.mk H
                            clear H
                            go_wp2_with (first | (go_at_call 35; (with_reducible refine (arraslaw1_num.calls t377 t382 _ A23.out).mono ?_); rintro e w' ⟨rfl, ⟨nd, rfl⟩⟩; (try first | exact ⟨rfl, _, World.drewN_drewN _ _ _⟩ | exact ⟨rfl, _, Eq.trans (World.drewN_drewN _ _ _) (congrArg (World.drewN _) (Nat.add_assoc _ _ _))⟩)))
                            repeat (go_quiet (first | (go_at_call 35; (with_reducible refine (arraslaw1_num.calls t377 t382 _ A23.out).mono ?_); rintro e w' ⟨rfl, ⟨nd, rfl⟩⟩; (try first | exact ⟨rfl, _, World.drewN_drewN _ _ _⟩ | exact ⟨rfl, _, Eq.trans (World.drewN_drewN _ _ _) (congrArg (World.drewN _) (Nat.add_assoc _ _ _))⟩))); try go_wp2_with (first | (go_at_call 35; (with_reducible refine (arraslaw1_num.calls t377 t382 _ A23.out).mono ?_); rintro e w' ⟨rfl, ⟨nd, rfl⟩⟩; (try first | exact ⟨rfl, _, World.drewN_drewN _ _ _⟩ | exact ⟨rfl, _, Eq.trans (World.drewN_drewN _ _ _) (congrArg (World.drewN _) (Nat.add_assoc _ _ _))⟩))))
                            go_meet
                            case rel => exact ⟨_, (true), (by first | rfl | (simp; done) | (simp [*]; done)), H', ⟨by have := HK1.out; have := HJ1.out; first | omega | exact Nat.le_refl _⟩, ⟨by repeat (first | (with_reducible first | exact HB.out | apply below_alloc | apply pw_below_drewN | apply below_drew1) | exact HB.out)⟩⟩
                        case rest =>
                          clear HC19
                          try clear c1
                          try clear c2
                          try clear p2
                          try clear c3
                          try clear c3b0
                          try clear p3
                          try clear q3
                          try clear hx3
                          try clear c4
                          try clear c5
                          try clear c5b0
                          try clear c6
                          try clear c6b0
                          try clear p6
                          try clear c8
                          try clear c9
                          try clear c9b0
                          try clear c10
                          try clear c10b0
                          try clear c13
                          try clear c13b0
                          try clear c14
                          try clear c14b0
                          try clear c24
                          try clear c24b0
                          try clear c24b1
                          try clear c26
                          try clear c26b0
                          try clear c26b1
                          try clear c28
                          try clear c28b0
                          try clear c28b1
                          try clear c29
                          try clear c29b0
                          try clear c29b1
                          try clear c30
                          try clear c30b0
                          try clear c30b1
                          try clear hx370_0
                          try clear hx372_0
                          try clear hx374_0
                          try clear p2
                          try clear p370
                          try clear p372
                          try clear p374
                          try clear q370
                          try clear q372
                          try clear q374
                          obtain ⟨kq, x94_18, rfl, HA, HJ18, HB⟩ := hcut
                          cases kq with
                          | zero => exact absurd HA.out (by simp [arraslaw1_FixedLaws.j2])
                          | succ kj18 =>
                            have H := HA.out
                            clear HA
                            simp only [arraslaw1_FixedLaws.j2] at H
                            by_cases c31 : x94_18 = true
                            · subst c31
                              have H1 : (some false) = some r := by rw [if_pos rfl] at H; exact H
                              clear H
                              have H := H1
                              clear H1
                              obtain rfl := Option.some.inj H
                              go_wp2
                              repeat (go_quiet (fail); try go_wp2)
                              go_ret
                              exact ⟨by first | rfl | (simp [errW_none, errW_some] <;> rfl) | (simp only [← hji8, ← hji12]; first | rfl | (simp [errW_none, errW_some] <;> rfl)) | (simp [*, errW_none, errW_some] <;> rfl), by repeat (first | (with_reducible first | exact HB.out | apply below_alloc | apply pw_below_drewN | apply below_drew1) | exact HB.out)⟩
                            · replace c31 := Bool.eq_false_iff.mpr c31
                              subst c31
                              have H1 : ((fixed_MulDiv.f kj18 (wrap64 (t371 - 536870912)) (wrap64 (1 + t375)) (wrap64 (1 + t375))).bind fun bt385 => ((fixed_MulDiv.f kj18 (wrap64 (t371 - 536870912)) (wrap64 (t373 - 536870912)) (wrap64 (1 + t375))).bind fun bt387 => ((fixed_MulDiv.f kj18 (wrap64 (t373 - 536870912)) (wrap64 (t371 - 536870912)) (wrap64 (1 + t375))).bind fun bt389 => ((arraslaw1_num.f bt385.2).bind fun t391 => (if t391 = 0 then ((arraslaw1_num.f bt387.2).bind fun t392 => (if t392 = 0 then ((arraslaw1_num.f bt389.2).bind fun t393 => (if t393 = 0 then (if bt385.1 = (wrap64 (t371 - 536870912)) then (arraslaw1_FixedLaws.j3 kj18 l0 x3_1 (wrap64 (t371 - 536870912)) (wrap64 (t373 - 536870912)) (wrap64 (1 + t375)) bt387.1 (bt387.1 != bt389.1)) else (arraslaw1_FixedLaws.j3 kj18 l0 x3_1 (wrap64 (t371 - 536870912)) (wrap64 (t373 - 536870912)) (wrap64 (1 + t375)) bt387.1 true)) else (arraslaw1_FixedLaws.j3 kj18 l0 x3_1 (wrap64 (t371 - 536870912)) (wrap64 (t373 - 536870912)) (wrap64 (1 + t375)) bt387.1 true))) else (arraslaw1_FixedLaws.j3 kj18 l0 x3_1 (wrap64 (t371 - 536870912)) (wrap64 (t373 - 536870912)) (wrap64 (1 + t375)) bt387.1 true))) else (arraslaw1_FixedLaws.j3 kj18 l0 x3_1 (wrap64 (t371 - 536870912)) (wrap64 (t373 - 536870912)) (wrap64 (1 + t375)) bt387.1 true)))))) = some r := by rw [if_neg (show ¬ (false = true) by decide)] at H; exact H
                              clear H
                              have H := H1
                              clear H1
                              replace H := Option.bind_eq_some_iff.mp H
                              obtain ⟨⟨t385, t386⟩, A320, H⟩ := H
                              replace H : ((fixed_MulDiv.f kj18 (wrap64 (t371 - 536870912)) (wrap64 (t373 - 536870912)) (wrap64 (1 + t375))).bind fun bt387 => ((fixed_MulDiv.f kj18 (wrap64 (t373 - 536870912)) (wrap64 (t371 - 536870912)) (wrap64 (1 + t375))).bind fun bt389 => ((arraslaw1_num.f t386).bind fun t391 => (if t391 = 0 then ((arraslaw1_num.f bt387.2).bind fun t392 => (if t392 = 0 then ((arraslaw1_num.f bt389.2).bind fun t393 => (if t393 = 0 then (if t385 = (wrap64 (t371 - 536870912)) then (arraslaw1_FixedLaws.j3 kj18 l0 x3_1 (wrap64 (t371 - 536870912)) (wrap64 (t373 - 536870912)) (wrap64 (1 + t375)) bt387.1 (bt387.1 != bt389.1)) else (arraslaw1_FixedLaws.j3 kj18 l0 x3_1 (wrap64 (t371 - 536870912)) (wrap64 (t373 - 536870912)) (wrap64 (1 + t375)) bt387.1 true)) else (arraslaw1_FixedLaws.j3 kj18 l0 x3_1 (wrap64 (t371 - 536870912)) (wrap64 (t373 - 536870912)) (wrap64 (1 + t375)) bt387.1 true))) else (arraslaw1_FixedLaws.j3 kj18 l0 x3_1 (wrap64 (t371 - 536870912)) (wrap64 (t373 - 536870912)) (wrap64 (1 + t375)) bt387.1 true))) else (arraslaw1_FixedLaws.j3 kj18 l0 x3_1 (wrap64 (t371 - 536870912)) (wrap64 (t373 - 536870912)) (wrap64 (1 + t375)) bt387.1 true))))) = some r := H
                              have A32 := Aside0.mk A320
                              clear A320
                              replace H := Option.bind_eq_some_iff.mp H
                              obtain ⟨⟨t387, t388⟩, A330, H⟩ := H
                              replace H : ((fixed_MulDiv.f kj18 (wrap64 (t373 - 536870912)) (wrap64 (t371 - 536870912)) (wrap64 (1 + t375))).bind fun bt389 => ((arraslaw1_num.f t386).bind fun t391 => (if t391 = 0 then ((arraslaw1_num.f t388).bind fun t392 => (if t392 = 0 then ((arraslaw1_num.f bt389.2).bind fun t393 => (if t393 = 0 then (if t385 = (wrap64 (t371 - 536870912)) then (arraslaw1_FixedLaws.j3 kj18 l0 x3_1 (wrap64 (t371 - 536870912)) (wrap64 (t373 - 536870912)) (wrap64 (1 + t375)) t387 (t387 != bt389.1)) else (arraslaw1_FixedLaws.j3 kj18 l0 x3_1 (wrap64 (t371 - 536870912)) (wrap64 (t373 - 536870912)) (wrap64 (1 + t375)) t387 true)) else (arraslaw1_FixedLaws.j3 kj18 l0 x3_1 (wrap64 (t371 - 536870912)) (wrap64 (t373 - 536870912)) (wrap64 (1 + t375)) t387 true))) else (arraslaw1_FixedLaws.j3 kj18 l0 x3_1 (wrap64 (t371 - 536870912)) (wrap64 (t373 - 536870912)) (wrap64 (1 + t375)) t387 true))) else (arraslaw1_FixedLaws.j3 kj18 l0 x3_1 (wrap64 (t371 - 536870912)) (wrap64 (t373 - 536870912)) (wrap64 (1 + t375)) t387 true)))) = some r := H
                              have A33 := Aside0.mk A330
                              clear A330
                              replace H := Option.bind_eq_some_iff.mp H
                              obtain ⟨⟨t389, t390⟩, A340, H⟩ := H
                              replace H : ((arraslaw1_num.f t386).bind fun t391 => (if t391 = 0 then ((arraslaw1_num.f t388).bind fun t392 => (if t392 = 0 then ((arraslaw1_num.f t390).bind fun t393 => (if t393 = 0 then (if t385 = (wrap64 (t371 - 536870912)) then (arraslaw1_FixedLaws.j3 kj18 l0 x3_1 (wrap64 (t371 - 536870912)) (wrap64 (t373 - 536870912)) (wrap64 (1 + t375)) t387 (t387 != t389)) else (arraslaw1_FixedLaws.j3 kj18 l0 x3_1 (wrap64 (t371 - 536870912)) (wrap64 (t373 - 536870912)) (wrap64 (1 + t375)) t387 true)) else (arraslaw1_FixedLaws.j3 kj18 l0 x3_1 (wrap64 (t371 - 536870912)) (wrap64 (t373 - 536870912)) (wrap64 (1 + t375)) t387 true))) else (arraslaw1_FixedLaws.j3 kj18 l0 x3_1 (wrap64 (t371 - 536870912)) (wrap64 (t373 - 536870912)) (wrap64 (1 + t375)) t387 true))) else (arraslaw1_FixedLaws.j3 kj18 l0 x3_1 (wrap64 (t371 - 536870912)) (wrap64 (t373 - 536870912)) (wrap64 (1 + t375)) t387 true))) = some r := H
                              have A34 := Aside0.mk A340
                              clear A340
                              have HC35 := Aside0.mk H
                              clear H
                              go_upto_region 13 with (first | (go_at_call 25; (with_reducible refine (fixed_MulDiv.calls kj18 (wrap64 (t371 - 536870912)) (wrap64 (1 + t375)) (wrap64 (1 + t375)) t385 t386 _ A32.out).mono ?_); rintro e w36 ⟨rfl, hb⟩; have n0_ := Aside0.mk (below_step (by repeat (first | (with_reducible first | exact HB.out | apply below_alloc | apply pw_below_drewN | apply below_drew1) | exact HB.out)) hb); clear HB; have HB := n0_; clear n0_; (try clear hb); (try clear hb2); (try clear hk); (try clear hi)) | (go_at_call 25; (with_reducible refine (fixed_MulDiv.calls kj18 (wrap64 (t371 - 536870912)) (wrap64 (t373 - 536870912)) (wrap64 (1 + t375)) t387 t388 _ A33.out).mono ?_); rintro e w37 ⟨rfl, hb⟩; have n0_ := Aside0.mk (below_step (by repeat (first | (with_reducible first | exact HB.out | apply below_alloc | apply pw_below_drewN | apply below_drew1) | exact HB.out)) hb); clear HB; have HB := n0_; clear n0_; (try clear hb); (try clear hb2); (try clear hk); (try clear hi)) | (go_at_call 25; (with_reducible refine (fixed_MulDiv.calls kj18 (wrap64 (t373 - 536870912)) (wrap64 (t371 - 536870912)) (wrap64 (1 + t375)) t389 t390 _ A34.out).mono ?_); rintro e w38 ⟨rfl, hb⟩; have n0_ := Aside0.mk (below_step (by repeat (first | (with_reducible first | exact HB.out | apply below_alloc | apply pw_below_drewN | apply below_drew1) | exact HB.out)) hb); clear HB; have HB := n0_; clear n0_; (try clear hb); (try clear hb2); (try clear hk); (try clear hi)))
                              repeat (go_quiet (first | (go_at_call 25; (with_reducible refine (fixed_MulDiv.calls kj18 (wrap64 (t371 - 536870912)) (wrap64 (1 + t375)) (wrap64 (1 + t375)) t385 t386 _ A32.out).mono ?_); rintro e w36 ⟨rfl, hb⟩; have n0_ := Aside0.mk (below_step (by repeat (first | (with_reducible first | exact HB.out | apply below_alloc | apply pw_below_drewN | apply below_drew1) | exact HB.out)) hb); clear HB; have HB := n0_; clear n0_; (try clear hb); (try clear hb2); (try clear hk); (try clear hi)) | (go_at_call 25; (with_reducible refine (fixed_MulDiv.calls kj18 (wrap64 (t371 - 536870912)) (wrap64 (t373 - 536870912)) (wrap64 (1 + t375)) t387 t388 _ A33.out).mono ?_); rintro e w37 ⟨rfl, hb⟩; have n0_ := Aside0.mk (below_step (by repeat (first | (with_reducible first | exact HB.out | apply below_alloc | apply pw_below_drewN | apply below_drew1) | exact HB.out)) hb); clear HB; have HB := n0_; clear n0_; (try clear hb); (try clear hb2); (try clear hk); (try clear hi)) | (go_at_call 25; (with_reducible refine (fixed_MulDiv.calls kj18 (wrap64 (t373 - 536870912)) (wrap64 (t371 - 536870912)) (wrap64 (1 + t375)) t389 t390 _ A34.out).mono ?_); rintro e w38 ⟨rfl, hb⟩; have n0_ := Aside0.mk (below_step (by repeat (first | (with_reducible first | exact HB.out | apply below_alloc | apply pw_below_drewN | apply below_drew1) | exact HB.out)) hb); clear HB; have HB := n0_; clear n0_; (try clear hb); (try clear hb2); (try clear hk); (try clear hi))); go_upto_region 13 with (first | (go_at_call 25; (with_reducible refine (fixed_MulDiv.calls kj18 (wrap64 (t371 - 536870912)) (wrap64 (1 + t375)) (wrap64 (1 + t375)) t385 t386 _ A32.out).mono ?_); rintro e w36 ⟨rfl, hb⟩; have n0_ := Aside0.mk (below_step (by repeat (first | (with_reducible first | exact HB.out | apply below_alloc | apply pw_below_drewN | apply below_drew1) | exact HB.out)) hb); clear HB; have HB := n0_; clear n0_; (try clear hb); (try clear hb2); (try clear hk); (try clear hi)) | (go_at_call 25; (with_reducible refine (fixed_MulDiv.calls kj18 (wrap64 (t371 - 536870912)) (wrap64 (t373 - 536870912)) (wrap64 (1 + t375)) t387 t388 _ A33.out).mono ?_); rintro e w37 ⟨rfl, hb⟩; have n0_ := Aside0.mk (below_step (by repeat (first | (with_reducible first | exact HB.out | apply below_alloc | apply pw_below_drewN | apply below_drew1) | exact HB.out)) hb); clear HB; have HB := n0_; clear n0_; (try clear hb); (try clear hb2); (try clear hk); (try clear hi)) | (go_at_call 25; (with_reducible refine (fixed_MulDiv.calls kj18 (wrap64 (t373 - 536870912)) (wrap64 (t371 - 536870912)) (wrap64 (1 + t375)) t389 t390 _ A34.out).mono ?_); rintro e w38 ⟨rfl, hb⟩; have n0_ := Aside0.mk (below_step (by repeat (first | (with_reducible first | exact HB.out | apply below_alloc | apply pw_below_drewN | apply below_drew1) | exact HB.out)) hb); clear HB; have HB := n0_; clear n0_; (try clear hb); (try clear hb2); (try clear hk); (try clear hi))))
                              (try simp only [Act.put, List.setIfInBounds_toArray, List.set_cons_zero, List.set_cons_succ])
                              go_cut [138] (fun v138 wc => ∃ (kq : Nat) (x138_34 : Bool), v138 = .bool x138_34 ∧ Aside0 (arraslaw1_FixedLaws.j3 kq l0 x3_1 (wrap64 (t371 - 536870912)) (wrap64 (t373 - 536870912)) (wrap64 (1 + t375)) t387 x138_34 = some r) ∧ Aside0 (kq ≤ kj18) ∧ Aside0 (Below w.heap.size w wc))
                              case first =>
                                have H := HC35.out
                                clear HC35
                                replace H := Option.bind_eq_some_iff.mp H
                                obtain ⟨t391, A390, H⟩ := H
                                replace H : (if t391 = 0 then ((arraslaw1_num.f t388).bind fun t392 => (if t392 = 0 then ((arraslaw1_num.f t390).bind fun t393 => (if t393 = 0 then (if t385 = (wrap64 (t371 - 536870912)) then (arraslaw1_FixedLaws.j3 kj18 l0 x3_1 (wrap64 (t371 - 536870912)) (wrap64 (t373 - 536870912)) (wrap64 (1 + t375)) t387 (t387 != t389)) else (arraslaw1_FixedLaws.j3 kj18 l0 x3_1 (wrap64 (t371 - 536870912)) (wrap64 (t373 - 536870912)) (wrap64 (1 + t375)) t387 true)) else (arraslaw1_FixedLaws.j3 kj18 l0 x3_1 (wrap64 (t371 - 536870912)) (wrap64 (t373 - 536870912)) (wrap64 (1 + t375)) t387 true))) else (arraslaw1_FixedLaws.j3 kj18 l0 x3_1 (wrap64 (t371 - 536870912)) (wrap64 (t373 - 536870912)) (wrap64 (1 + t375)) t387 true))) else (arraslaw1_FixedLaws.j3 kj18 l0 x3_1 (wrap64 (t371 - 536870912)) (wrap64 (t373 - 536870912)) (wrap64 (1 + t375)) t387 true)) = some r := H
                                have A39 := Aside0.mk A390
                                clear A390
                                by_cases c40 : t391 = 0
                                · rw [if_pos c40] at H
                                  have c40b0 : (t391 == 0) = true := beq_iff_eq.mpr c40
                                  have c40b1 : (t391 != 0) = false := bne_eq_false_iff_eq.mpr c40
                                  clear c40
                                  (first | rw [c40b0] | (simp only [i64_w, i32_w]; rw [c40b0]) | skip)
                                  replace H := Option.bind_eq_some_iff.mp H
                                  obtain ⟨t392, A410, H⟩ := H
                                  replace H : (if t392 = 0 then ((arraslaw1_num.f t390).bind fun t393 => (if t393 = 0 then (if t385 = (wrap64 (t371 - 536870912)) then (arraslaw1_FixedLaws.j3 kj18 l0 x3_1 (wrap64 (t371 - 536870912)) (wrap64 (t373 - 536870912)) (wrap64 (1 + t375)) t387 (t387 != t389)) else (arraslaw1_FixedLaws.j3 kj18 l0 x3_1 (wrap64 (t371 - 536870912)) (wrap64 (t373 - 536870912)) (wrap64 (1 + t375)) t387 true)) else (arraslaw1_FixedLaws.j3 kj18 l0 x3_1 (wrap64 (t371 - 536870912)) (wrap64 (t373 - 536870912)) (wrap64 (1 + t375)) t387 true))) else (arraslaw1_FixedLaws.j3 kj18 l0 x3_1 (wrap64 (t371 - 536870912)) (wrap64 (t373 - 536870912)) (wrap64 (1 + t375)) t387 true)) = some r := H
                                  have A41 := Aside0.mk A410
                                  clear A410
                                  by_cases c42 : t392 = 0
                                  · rw [if_pos c42] at H
                                    have c42b0 : (t392 == 0) = true := beq_iff_eq.mpr c42
                                    have c42b1 : (t392 != 0) = false := bne_eq_false_iff_eq.mpr c42
                                    clear c42
                                    replace H := Option.bind_eq_some_iff.mp H
                                    obtain ⟨t393, A430, H⟩ := H
                                    replace H : (if t393 = 0 then (if t385 = (wrap64 (t371 - 536870912)) then (arraslaw1_FixedLaws.j3 kj18 l0 x3_1 (wrap64 (t371 - 536870912)) (wrap64 (t373 - 536870912)) (wrap64 (1 + t375)) t387 (t387 != t389)) else (arraslaw1_FixedLaws.j3 kj18 l0 x3_1 (wrap64 (t371 - 536870912)) (wrap64 (t373 - 536870912)) (wrap64 (1 + t375)) t387 true)) else (arraslaw1_FixedLaws.j3 kj18 l0 x3_1 (wrap64 (t371 - 536870912)) (wrap64 (t373 - 536870912)) (wrap64 (1 + t375)) t387 true)) = some r := H
                                    have A43 := Aside0.mk A430
                                    clear A430
                                    by_cases c44 : t393 = 0
                                    · rw [if_pos c44] at H
                                      have c44b0 : (t393 == 0) = true := beq_iff_eq.mpr c44
                                      have c44b1 : (t393 != 0) = false := bne_eq_false_iff_eq.mpr c44
                                      clear c44
                                      by_cases c45 : t385 = (wrap64 (t371 - 536870912))
                                      · rw [if_pos c45] at H
                                        have c45b0 : (t385 == (wrap64 (t371 - 536870912))) = true := beq_iff_eq.mpr c45
                                        have c45b1 : (t385 != (wrap64 (t371 - 536870912))) = false := bne_eq_false_iff_eq.mpr c45
                                        clear c45
                                        have H' := Aside0.mk H
                                        clear H
                                        go_wp2_with (first | (go_at_call 35; (with_reducible refine (arraslaw1_num.calls t386 t391 _ A39.out).mono ?_); rintro e w' ⟨rfl, ⟨nd, rfl⟩⟩; (try first | exact ⟨rfl, _, World.drewN_drewN _ _ _⟩ | exact ⟨rfl, _, Eq.trans (World.drewN_drewN _ _ _) (congrArg (World.drewN _) (Nat.add_assoc _ _ _))⟩)) | (go_at_call 35; (with_reducible refine (arraslaw1_num.calls t388 t392 _ A41.out).mono ?_); rintro e w' ⟨rfl, ⟨nd, rfl⟩⟩; (try first | exact ⟨rfl, _, World.drewN_drewN _ _ _⟩ | exact ⟨rfl, _, Eq.trans (World.drewN_drewN _ _ _) (congrArg (World.drewN _) (Nat.add_assoc _ _ _))⟩)) | (go_at_call 35; (with_reducible refine (arraslaw1_num.calls t390 t393 _ A43.out).mono ?_); rintro e w' ⟨rfl, ⟨nd, rfl⟩⟩; (try first | exact ⟨rfl, _, World.drewN_drewN _ _ _⟩ | exact ⟨rfl, _, Eq.trans (World.drewN_drewN _ _ _) (congrArg (World.drewN _) (Nat.add_assoc _ _ _))⟩)))
                                        repeat (go_quiet (first | (go_at_call 35; (with_reducible refine (arraslaw1_num.calls t386 t391 _ A39.out).mono ?_); rintro e w' ⟨rfl, ⟨nd, rfl⟩⟩; (try first | exact ⟨rfl, _, World.drewN_drewN _ _ _⟩ | exact ⟨rfl, _, Eq.trans (World.drewN_drewN _ _ _) (congrArg (World.drewN _) (Nat.add_assoc _ _ _))⟩)) | (go_at_call 35; (with_reducible refine (arraslaw1_num.calls t388 t392 _ A41.out).mono ?_); rintro e w' ⟨rfl, ⟨nd, rfl⟩⟩; (try first | exact ⟨rfl, _, World.drewN_drewN _ _ _⟩ | exact ⟨rfl, _, Eq.trans (World.drewN_drewN _ _ _) (congrArg (World.drewN _) (Nat.add_assoc _ _ _))⟩)) | (go_at_call 35; (with_reducible refine (arraslaw1_num.calls t390 t393 _ A43.out).mono ?_); rintro e w' ⟨rfl, ⟨nd, rfl⟩⟩; (try first | exact ⟨rfl, _, World.drewN_drewN _ _ _⟩ | exact ⟨rfl, _, Eq.trans (World.drewN_drewN _ _ _) (congrArg (World.drewN _) (Nat.add_assoc _ _ _))⟩))); try go_wp2_with (first | (go_at_call 35; (with_reducible refine (arraslaw1_num.calls t386 t391 _ A39.out).mono ?_); rintro e w' ⟨rfl, ⟨nd, rfl⟩⟩; (try first | exact ⟨rfl, _, World.drewN_drewN _ _ _⟩ | exact ⟨rfl, _, Eq.trans (World.drewN_drewN _ _ _) (congrArg (World.drewN _) (Nat.add_assoc _ _ _))⟩)) | (go_at_call 35; (with_reducible refine (arraslaw1_num.calls t388 t392 _ A41.out).mono ?_); rintro e w' ⟨rfl, ⟨nd, rfl⟩⟩; (try first | exact ⟨rfl, _, World.drewN_drewN _ _ _⟩ | exact ⟨rfl, _, Eq.trans (World.drewN_drewN _ _ _) (congrArg (World.drewN _) (Nat.add_assoc _ _ _))⟩)) | (go_at_call 35; (with_reducible refine (arraslaw1_num.calls t390 t393 _ A43.out).mono ?_); rintro e w' ⟨rfl, ⟨nd, rfl⟩⟩; (try first | exact ⟨rfl, _, World.drewN_drewN _ _ _⟩ | exact ⟨rfl, _, Eq.trans (World.drewN_drewN _ _ _) (congrArg (World.drewN _) (Nat.add_assoc _ _ _))⟩))))
                                        go_meet
                                        case rel => exact ⟨_, ((t387 != t389)), (by first | rfl | (simp; done) | (simp [*]; done)), H', ⟨by have := HK1.out; have := HJ1.out; have := HJ18.out; first | omega | exact Nat.le_refl _⟩, ⟨by repeat (first | (with_reducible first | exact HB.out | apply below_alloc | apply pw_below_drewN | apply below_drew1) | exact HB.out)⟩⟩
                                      · rw [if_neg c45] at H
                                        have c45b0 : (t385 == (wrap64 (t371 - 536870912))) = false := beq_eq_false_iff_ne.mpr c45
                                        have c45b1 : (t385 != (wrap64 (t371 - 536870912))) = true := bne_iff_ne.mpr c45
                                        have H' := Aside0.mk H
                                        clear H
                                        go_wp2_with (first | (go_at_call 35; (with_reducible refine (arraslaw1_num.calls t386 t391 _ A39.out).mono ?_); rintro e w' ⟨rfl, ⟨nd, rfl⟩⟩; (try first | exact ⟨rfl, _, World.drewN_drewN _ _ _⟩ | exact ⟨rfl, _, Eq.trans (World.drewN_drewN _ _ _) (congrArg (World.drewN _) (Nat.add_assoc _ _ _))⟩)) | (go_at_call 35; (with_reducible refine (arraslaw1_num.calls t388 t392 _ A41.out).mono ?_); rintro e w' ⟨rfl, ⟨nd, rfl⟩⟩; (try first | exact ⟨rfl, _, World.drewN_drewN _ _ _⟩ | exact ⟨rfl, _, Eq.trans (World.drewN_drewN _ _ _) (congrArg (World.drewN _) (Nat.add_assoc _ _ _))⟩)) | (go_at_call 35; (with_reducible refine (arraslaw1_num.calls t390 t393 _ A43.out).mono ?_); rintro e w' ⟨rfl, ⟨nd, rfl⟩⟩; (try first | exact ⟨rfl, _, World.drewN_drewN _ _ _⟩ | exact ⟨rfl, _, Eq.trans (World.drewN_drewN _ _ _) (congrArg (World.drewN _) (Nat.add_assoc _ _ _))⟩)))
                                        repeat (go_quiet (first | (go_at_call 35; (with_reducible refine (arraslaw1_num.calls t386 t391 _ A39.out).mono ?_); rintro e w' ⟨rfl, ⟨nd, rfl⟩⟩; (try first | exact ⟨rfl, _, World.drewN_drewN _ _ _⟩ | exact ⟨rfl, _, Eq.trans (World.drewN_drewN _ _ _) (congrArg (World.drewN _) (Nat.add_assoc _ _ _))⟩)) | (go_at_call 35; (with_reducible refine (arraslaw1_num.calls t388 t392 _ A41.out).mono ?_); rintro e w' ⟨rfl, ⟨nd, rfl⟩⟩; (try first | exact ⟨rfl, _, World.drewN_drewN _ _ _⟩ | exact ⟨rfl, _, Eq.trans (World.drewN_drewN _ _ _) (congrArg (World.drewN _) (Nat.add_assoc _ _ _))⟩)) | (go_at_call 35; (with_reducible refine (arraslaw1_num.calls t390 t393 _ A43.out).mono ?_); rintro e w' ⟨rfl, ⟨nd, rfl⟩⟩; (try first | exact ⟨rfl, _, World.drewN_drewN _ _ _⟩ | exact ⟨rfl, _, Eq.trans (World.drewN_drewN _ _ _) (congrArg (World.drewN _) (Nat.add_assoc _ _ _))⟩))); try go_wp2_with (first | (go_at_call 35; (with_reducible refine (arraslaw1_num.calls t386 t391 _ A39.out).mono ?_); rintro e w' ⟨rfl, ⟨nd, rfl⟩⟩; (try first | exact ⟨rfl, _, World.drewN_drewN _ _ _⟩ | exact ⟨rfl, _, Eq.trans (World.drewN_drewN _ _ _) (congrArg (World.drewN _) (Nat.add_assoc _ _ _))⟩)) | (go_at_call 35; (with_reducible refine (arraslaw1_num.calls t388 t392 _ A41.out).mono ?_); rintro e w' ⟨rfl, ⟨nd, rfl⟩⟩; (try first | exact ⟨rfl, _, World.drewN_drewN _ _ _⟩ | exact ⟨rfl, _, Eq.trans (World.drewN_drewN _ _ _) (congrArg (World.drewN _) (Nat.add_assoc _ _ _))⟩)) | (go_at_call 35; (with_reducible refine (arraslaw1_num.calls t390 t393 _ A43.out).mono ?_); rintro e w' ⟨rfl, ⟨nd, rfl⟩⟩; (try first | exact ⟨rfl, _, World.drewN_drewN _ _ _⟩ | exact ⟨rfl, _, Eq.trans (World.drewN_drewN _ _ _) (congrArg (World.drewN _) (Nat.add_assoc _ _ _))⟩))))
                                        go_meet
                                        case rel => exact ⟨_, (true), (by first | rfl | (simp; done) | (simp [*]; done)), H', ⟨by have := HK1.out; have := HJ1.out; have := HJ18.out; first | omega | exact Nat.le_refl _⟩, ⟨by repeat (first | (with_reducible first | exact HB.out | apply below_alloc | apply pw_below_drewN | apply below_drew1) | exact HB.out)⟩⟩
                                    · rw [if_neg c44] at H
                                      have c44b0 : (t393 == 0) = false := beq_eq_false_iff_ne.mpr c44
                                      have c44b1 : (t393 != 0) = true := bne_iff_ne.mpr c44
                                      have H' := Aside0.mk H
                                      clear H
                                      go_wp2_with (first | (go_at_call 35; (with_reducible refine (arraslaw1_num.calls t386 t391 _ A39.out).mono ?_); rintro e w' ⟨rfl, ⟨nd, rfl⟩⟩; (try first | exact ⟨rfl, _, World.drewN_drewN _ _ _⟩ | exact ⟨rfl, _, Eq.trans (World.drewN_drewN _ _ _) (congrArg (World.drewN _) (Nat.add_assoc _ _ _))⟩)) | (go_at_call 35; (with_reducible refine (arraslaw1_num.calls t388 t392 _ A41.out).mono ?_); rintro e w' ⟨rfl, ⟨nd, rfl⟩⟩; (try first | exact ⟨rfl, _, World.drewN_drewN _ _ _⟩ | exact ⟨rfl, _, Eq.trans (World.drewN_drewN _ _ _) (congrArg (World.drewN _) (Nat.add_assoc _ _ _))⟩)) | (go_at_call 35; (with_reducible refine (arraslaw1_num.calls t390 t393 _ A43.out).mono ?_); rintro e w' ⟨rfl, ⟨nd, rfl⟩⟩; (try first | exact ⟨rfl, _, World.drewN_drewN _ _ _⟩ | exact ⟨rfl, _, Eq.trans (World.drewN_drewN _ _ _) (congrArg (World.drewN _) (Nat.add_assoc _ _ _))⟩)))
                                      repeat (go_quiet (first | (go_at_call 35; (with_reducible refine (arraslaw1_num.calls t386 t391 _ A39.out).mono ?_); rintro e w' ⟨rfl, ⟨nd, rfl⟩⟩; (try first | exact ⟨rfl, _, World.drewN_drewN _ _ _⟩ | exact ⟨rfl, _, Eq.trans (World.drewN_drewN _ _ _) (congrArg (World.drewN _) (Nat.add_assoc _ _ _))⟩)) | (go_at_call 35; (with_reducible refine (arraslaw1_num.calls t388 t392 _ A41.out).mono ?_); rintro e w' ⟨rfl, ⟨nd, rfl⟩⟩; (try first | exact ⟨rfl, _, World.drewN_drewN _ _ _⟩ | exact ⟨rfl, _, Eq.trans (World.drewN_drewN _ _ _) (congrArg (World.drewN _) (Nat.add_assoc _ _ _))⟩)) | (go_at_call 35; (with_reducible refine (arraslaw1_num.calls t390 t393 _ A43.out).mono ?_); rintro e w' ⟨rfl, ⟨nd, rfl⟩⟩; (try first | exact ⟨rfl, _, World.drewN_drewN _ _ _⟩ | exact ⟨rfl, _, Eq.trans (World.drewN_drewN _ _ _) (congrArg (World.drewN _) (Nat.add_assoc _ _ _))⟩))); try go_wp2_with (first | (go_at_call 35; (with_reducible refine (arraslaw1_num.calls t386 t391 _ A39.out).mono ?_); rintro e w' ⟨rfl, ⟨nd, rfl⟩⟩; (try first | exact ⟨rfl, _, World.drewN_drewN _ _ _⟩ | exact ⟨rfl, _, Eq.trans (World.drewN_drewN _ _ _) (congrArg (World.drewN _) (Nat.add_assoc _ _ _))⟩)) | (go_at_call 35; (with_reducible refine (arraslaw1_num.calls t388 t392 _ A41.out).mono ?_); rintro e w' ⟨rfl, ⟨nd, rfl⟩⟩; (try first | exact ⟨rfl, _, World.drewN_drewN _ _ _⟩ | exact ⟨rfl, _, Eq.trans (World.drewN_drewN _ _ _) (congrArg (World.drewN _) (Nat.add_assoc _ _ _))⟩)) | (go_at_call 35; (with_reducible refine (arraslaw1_num.calls t390 t393 _ A43.out).mono ?_); rintro e w' ⟨rfl, ⟨nd, rfl⟩⟩; (try first | exact ⟨rfl, _, World.drewN_drewN _ _ _⟩ | exact ⟨rfl, _, Eq.trans (World.drewN_drewN _ _ _) (congrArg (World.drewN _) (Nat.add_assoc _ _ _))⟩))))
                                      go_meet
                                      case rel => exact ⟨_, (true), (by first | rfl | (simp; done) | (simp [*]; done)), H', ⟨by have := HK1.out; have := HJ1.out; have := HJ18.out; first | omega | exact Nat.le_refl _⟩, ⟨by repeat (first | (with_reducible first | exact HB.out | apply below_alloc | apply pw_below_drewN | apply below_drew1) | exact HB.out)⟩⟩
                                  · rw [if_neg c42] at H
                                    have c42b0 : (t392 == 0) = false := beq_eq_false_iff_ne.mpr c42
                                    have c42b1 : (t392 != 0) = true := bne_iff_ne.mpr c42
                                    have H' := Aside0.mk H
                                    clear H
                                    go_wp2_with (first | (go_at_call 35; (with_reducible refine (arraslaw1_num.calls t386 t391 _ A39.out).mono ?_); rintro e w' ⟨rfl, ⟨nd, rfl⟩⟩; (try first | exact ⟨rfl, _, World.drewN_drewN _ _ _⟩ | exact ⟨rfl, _, Eq.trans (World.drewN_drewN _ _ _) (congrArg (World.drewN _) (Nat.add_assoc _ _ _))⟩)) | (go_at_call 35; (with_reducible refine (arraslaw1_num.calls t388 t392 _ A41.out).mono ?_); rintro e w' ⟨rfl, ⟨nd, rfl⟩⟩; (try first | exact ⟨rfl, _, World.drewN_drewN _ _ _⟩ | exact ⟨rfl, _, Eq.trans (World.drewN_drewN _ _ _) (congrArg (World.drewN _) (Nat.add_assoc _ _ _))⟩)))
                                    repeat (go_quiet (first | (go_at_call 35; (with_reducible refine (arraslaw1_num.calls t386 t391 _ A39.out).mono ?_); rintro e w' ⟨rfl, ⟨nd, rfl⟩⟩; (try first | exact ⟨rfl, _, World.drewN_drewN _ _ _⟩ | exact ⟨rfl, _, Eq.trans (World.drewN_drewN _ _ _) (congrArg (World.drewN _) (Nat.add_assoc _ _ _))⟩)) | (go_at_call 35; (with_reducible refine (arraslaw1_num.calls t388 t392 _ A41.out).mono ?_); rintro e w' ⟨rfl, ⟨nd, rfl⟩⟩; (try first | exact ⟨rfl, _, World.drewN_drewN _ _ _⟩ | exact ⟨rfl, _, Eq.trans (World.drewN_drewN _ _ _) (congrArg (World.drewN _) (Nat.add_assoc _ _ _))⟩))); try go_wp2_with (first | (go_at_call 35; (with_reducible refine (arraslaw1_num.calls t386 t391 _ A39.out).mono ?_); rintro e w' ⟨rfl, ⟨nd, rfl⟩⟩; (try first | exact ⟨rfl, _, World.drewN_drewN _ _ _⟩ | exact ⟨rfl, _, Eq.trans (World.drewN_drewN _ _ _) (congrArg (World.drewN _) (Nat.add_assoc _ _ _))⟩)) | (go_at_call 35; (with_reducible refine (arraslaw1_num.calls t388 t392 _ A41.out).mono ?_); rintro e w' ⟨rfl, ⟨nd, rfl⟩⟩; (try first | exact ⟨rfl, _, World.drewN_drewN _ _ _⟩ | exact ⟨rfl, _, Eq.trans (World.drewN_drewN _ _ _) (congrArg (World.drewN _) (Nat.add_assoc _ _ _))⟩))))
                                    go_meet
                                    case rel => exact ⟨_, (true), (by first | rfl | (simp; done) | (simp [*]; done)), H', ⟨by have := HK1.out; have := HJ1.out; have := HJ18.out; first | omega | exact Nat.le_refl _⟩, ⟨by repeat (first | (with_reducible first | exact HB.out | apply below_alloc | apply pw_below_drewN | apply below_drew1) | exact HB.out)⟩⟩
                                · rw [if_neg c40] at H
                                  have c40b0 : (t391 == 0) = false := beq_eq_false_iff_ne.mpr c40
                                  have c40b1 : (t391 != 0) = true := bne_iff_ne.mpr c40
                                  (first | rw [c40b0] | (simp only [i64_w, i32_w]; rw [c40b0]) | skip)
                                  have H' := Aside0.mk H
                                  clear H
                                  go_wp2_with (first | (go_at_call 35; (with_reducible refine (arraslaw1_num.calls t386 t391 _ A39.out).mono ?_); rintro e w' ⟨rfl, ⟨nd, rfl⟩⟩; (try first | exact ⟨rfl, _, World.drewN_drewN _ _ _⟩ | exact ⟨rfl, _, Eq.trans (World.drewN_drewN _ _ _) (congrArg (World.drewN _) (Nat.add_assoc _ _ _))⟩)))
                                  repeat (go_quiet (first | (go_at_call 35; (with_reducible refine (arraslaw1_num.calls t386 t391 _ A39.out).mono ?_); rintro e w' ⟨rfl, ⟨nd, rfl⟩⟩; (try first | exact ⟨rfl, _, World.drewN_drewN _ _ _⟩ | exact ⟨rfl, _, Eq.trans (World.drewN_drewN _ _ _) (congrArg (World.drewN _) (Nat.add_assoc _ _ _))⟩))); try go_wp2_with (first | (go_at_call 35; (with_reducible refine (arraslaw1_num.calls t386 t391 _ A39.out).mono ?_); rintro e w' ⟨rfl, ⟨nd, rfl⟩⟩; (try first | exact ⟨rfl, _, World.drewN_drewN _ _ _⟩ | exact ⟨rfl, _, Eq.trans (World.drewN_drewN _ _ _) (congrArg (World.drewN _) (Nat.add_assoc _ _ _))⟩))))
                                  go_meet
                                  case rel => exact ⟨_, (true), (by first | rfl | (simp; done) | (simp [*]; done)), H', ⟨by have := HK1.out; have := HJ1.out; have := HJ18.out; first | omega | exact Nat.le_refl _⟩, ⟨by repeat (first | (with_reducible first | exact HB.out | apply below_alloc | apply pw_below_drewN | apply below_drew1) | exact HB.out)⟩⟩
                              case rest =>
                                clear HC35
                                try clear c1
                                try clear c2
                                try clear p2
                                try clear c3
                                try clear c3b0
                                try clear p3
                                try clear q3
                                try clear hx3
                                try clear c4
                                try clear c5
                                try clear c5b0
                                try clear c6
                                try clear c6b0
                                try clear p6
                                try clear c8
                                try clear c9
                                try clear c9b0
                                try clear c10
                                try clear c10b0
                                try clear c13
                                try clear c13b0
                                try clear c14
                                try clear c14b0
                                try clear c24
                                try clear c24b0
                                try clear c24b1
                                try clear c26
                                try clear c26b0
                                try clear c26b1
                                try clear c28
                                try clear c28b0
                                try clear c28b1
                                try clear c29
                                try clear c29b0
                                try clear c29b1
                                try clear c30
                                try clear c30b0
                                try clear c30b1
                                try clear c31
                                try clear p37
                                try clear q37
                                try clear hx37
                                try clear c40
                                try clear c40b0
                                try clear c40b1
                                try clear c42
                                try clear c42b0
                                try clear c42b1
                                try clear c44
                                try clear c44b0
                                try clear c44b1
                                try clear c45
                                try clear c45b0
                                try clear c45b1
                                try clear hx370_0
                                try clear hx372_0
                                try clear hx374_0
                                try clear p2
                                try clear p3
                                try clear p370
                                try clear p372
                                try clear p374
                                try clear p6
                                try clear q3
                                try clear q370
                                try clear q372
                                try clear q374
                                obtain ⟨kq, x138_34, rfl, HA, HJ34, HB⟩ := hcut
                                cases kq with
                                | zero => exact absurd HA.out (by simp [arraslaw1_FixedLaws.j3])
                                | succ kj34 =>
                                  have H := HA.out
                                  clear HA
                                  simp only [arraslaw1_FixedLaws.j3] at H
                                  by_cases c46 : x138_34 = true
                                  · subst c46
                                    have H1 : (some false) = some r := by rw [if_pos rfl] at H; exact H
                                    clear H
                                    have H := H1
                                    clear H1
                                    obtain rfl := Option.some.inj H
                                    go_wp2
                                    repeat (go_quiet (fail); try go_wp2)
                                    go_ret
                                    exact ⟨by first | rfl | (simp [errW_none, errW_some] <;> rfl) | (simp only [← hji8, ← hji12]; first | rfl | (simp [errW_none, errW_some] <;> rfl)) | (simp [*, errW_none, errW_some] <;> rfl), by repeat (first | (with_reducible first | exact HB.out | apply below_alloc | apply pw_below_drewN | apply below_drew1) | exact HB.out)⟩
                                  · replace c46 := Bool.eq_false_iff.mpr c46
                                    subst c46
                                    have H1 : (if t387 > (-1099511627776) then (if t387 < 1099511627776 then (if (wrap64 ((wrap64 ((wrap64 (t371 - 536870912)) * (wrap64 (t373 - 536870912)))) - (wrap64 (t387 * (wrap64 (1 + t375)))))) < 0 then (some false) else (if (wrap64 ((wrap64 ((wrap64 (t371 - 536870912)) * (wrap64 (t373 - 536870912)))) - (wrap64 (t387 * (wrap64 (1 + t375)))))) ≥ (wrap64 (1 + t375)) then (some false) else (arraslaw1_FixedLaws.l0 kj34 l0 (wrap64 (x3_1 + 1))))) else (arraslaw1_FixedLaws.l0 kj34 l0 (wrap64 (x3_1 + 1)))) else (arraslaw1_FixedLaws.l0 kj34 l0 (wrap64 (x3_1 + 1)))) = some r := by rw [if_neg (show ¬ (false = true) by decide)] at H; exact H
                                    clear H
                                    have H := H1
                                    clear H1
                                    by_cases c47 : t387 > (-1099511627776)
                                    · rw [if_pos c47] at H
                                      have c47b0 : decide ((-1099511627776) < t387) = true := decide_eq_true c47
                                      clear c47
                                      by_cases c48 : t387 < 1099511627776
                                      · rw [if_pos c48] at H
                                        have c48b0 : decide (t387 < 1099511627776) = true := decide_eq_true c48
                                        clear c48
                                        by_cases c49 : (wrap64 ((wrap64 ((wrap64 (t371 - 536870912)) * (wrap64 (t373 - 536870912)))) - (wrap64 (t387 * (wrap64 (1 + t375)))))) < 0
                                        · rw [if_pos c49] at H
                                          have c49b0 : decide ((wrap64 ((wrap64 ((wrap64 (t371 - 536870912)) * (wrap64 (t373 - 536870912)))) - (wrap64 (t387 * (wrap64 (1 + t375)))))) < 0) = true := decide_eq_true c49
                                          clear c49
                                          obtain rfl := Option.some.inj H
                                          go_wp2
                                          repeat (go_quiet (fail); try go_wp2)
                                          go_ret
                                          exact ⟨by first | rfl | (simp [errW_none, errW_some] <;> rfl) | (simp only [← hji8, ← hji12]; first | rfl | (simp [errW_none, errW_some] <;> rfl)) | (simp [*, errW_none, errW_some] <;> rfl), by repeat (first | (with_reducible first | exact HB.out | apply below_alloc | apply pw_below_drewN | apply below_drew1) | exact HB.out)⟩
                                        · rw [if_neg c49] at H
                                          have c49b0 : decide ((wrap64 ((wrap64 ((wrap64 (t371 - 536870912)) * (wrap64 (t373 - 536870912)))) - (wrap64 (t387 * (wrap64 (1 + t375)))))) < 0) = false := decide_eq_false c49
                                          clear c49
                                          by_cases c50 : (wrap64 ((wrap64 ((wrap64 (t371 - 536870912)) * (wrap64 (t373 - 536870912)))) - (wrap64 (t387 * (wrap64 (1 + t375)))))) ≥ (wrap64 (1 + t375))
                                          · rw [if_pos c50] at H
                                            have c50b0 : decide ((wrap64 (1 + t375)) ≤ (wrap64 ((wrap64 ((wrap64 (t371 - 536870912)) * (wrap64 (t373 - 536870912)))) - (wrap64 (t387 * (wrap64 (1 + t375))))))) = true := decide_eq_true c50
                                            clear c50
                                            obtain rfl := Option.some.inj H
                                            go_wp2
                                            repeat (go_quiet (fail); try go_wp2)
                                            go_ret
                                            exact ⟨by first | rfl | (simp [errW_none, errW_some] <;> rfl) | (simp only [← hji8, ← hji12]; first | rfl | (simp [errW_none, errW_some] <;> rfl)) | (simp [*, errW_none, errW_some] <;> rfl), by repeat (first | (with_reducible first | exact HB.out | apply below_alloc | apply pw_below_drewN | apply below_drew1) | exact HB.out)⟩
                                          · rw [if_neg c50] at H
                                            have c50b0 : decide ((wrap64 (1 + t375)) ≤ (wrap64 ((wrap64 ((wrap64 (t371 - 536870912)) * (wrap64 (t373 - 536870912)))) - (wrap64 (t387 * (wrap64 (1 + t375))))))) = false := decide_eq_false c50
                                            clear c50
                                            have H' := Aside0.mk H
                                            clear H
                                            go_wp2
                                            repeat (go_quiet (fail); try go_wp2)
                                            go_roundg kj34
                                            case measure => have := HK1.out; have := HJ1.out; have := HJ18.out; have := HJ34.out; omega
                                            case rel => exact ⟨(wrap64 (x3_1 + 1)), (by first | rfl | (simp; done) | (simp [*]; done)), H', ⟨by have := HK1.out; have := HJ1.out; have := HJ18.out; have := HJ34.out; omega⟩, ⟨by repeat (first | (with_reducible first | exact HB.out | apply below_alloc | apply pw_below_drewN | apply below_drew1) | exact HB.out)⟩⟩
                                      · rw [if_neg c48] at H
                                        have c48b0 : decide (t387 < 1099511627776) = false := decide_eq_false c48
                                        clear c48
                                        have H' := Aside0.mk H
                                        clear H
                                        go_wp2
                                        repeat (go_quiet (fail); try go_wp2)
                                        go_roundg kj34
                                        case measure => have := HK1.out; have := HJ1.out; have := HJ18.out; have := HJ34.out; omega
                                        case rel => exact ⟨(wrap64 (x3_1 + 1)), (by first | rfl | (simp; done) | (simp [*]; done)), H', ⟨by have := HK1.out; have := HJ1.out; have := HJ18.out; have := HJ34.out; omega⟩, ⟨by repeat (first | (with_reducible first | exact HB.out | apply below_alloc | apply pw_below_drewN | apply below_drew1) | exact HB.out)⟩⟩
                                    · rw [if_neg c47] at H
                                      have c47b0 : decide ((-1099511627776) < t387) = false := decide_eq_false c47
                                      clear c47
                                      have H' := Aside0.mk H
                                      clear H
                                      go_wp2
                                      repeat (go_quiet (fail); try go_wp2)
                                      go_roundg kj34
                                      case measure => have := HK1.out; have := HJ1.out; have := HJ18.out; have := HJ34.out; omega
                                      case rel => exact ⟨(wrap64 (x3_1 + 1)), (by first | rfl | (simp; done) | (simp [*]; done)), H', ⟨by have := HK1.out; have := HJ1.out; have := HJ18.out; have := HJ34.out; omega⟩, ⟨by repeat (first | (with_reducible first | exact HB.out | apply below_alloc | apply pw_below_drewN | apply below_drew1) | exact HB.out)⟩⟩
                      · rw [if_neg c14] at H
                        exact absurd H (by simp)
                    · rw [if_neg c13] at H
                      exact absurd H (by simp)
                  · rw [if_neg c10] at H
                    exact absurd H (by simp)
                · rw [if_neg c9] at H
                  exact absurd H (by simp)
              · rw [if_neg c6] at H
                exact absurd H (by simp)
            · rw [if_neg c5] at H
              exact absurd H (by simp)
          · replace c4 := Bool.eq_false_iff.mpr c4
            subst c4
            have H1 : ((arraslaw1_wakes.f kj1).bind fun t369 => (some t369)) = some r := by rw [if_neg (show ¬ (false = true) by decide)] at H; exact H
            clear H
            have H := H1
            clear H1
            replace H := Option.bind_eq_some_iff.mp H
            obtain ⟨t369, A510, H⟩ := H
            replace H : (some t369) = some r := H
            have A51 := Aside0.mk A510
            clear A510
            obtain rfl := Option.some.inj H
            go_wp2_with (first | (go_at_call 29; (with_reducible refine (arraslaw1_wakes.calls kj1  t369 _ A51.out).mono ?_); rintro e w52 ⟨rfl, hb⟩; have n0_ := Aside0.mk (below_step (by repeat (first | (with_reducible first | exact HB.out | apply below_alloc | apply pw_below_drewN | apply below_drew1) | exact HB.out)) hb); clear HB; have HB := n0_; clear n0_; (try clear hb); (try clear hb2); (try clear hk); (try clear hi)))
            repeat (go_quiet (first | (go_at_call 29; (with_reducible refine (arraslaw1_wakes.calls kj1  t369 _ A51.out).mono ?_); rintro e w52 ⟨rfl, hb⟩; have n0_ := Aside0.mk (below_step (by repeat (first | (with_reducible first | exact HB.out | apply below_alloc | apply pw_below_drewN | apply below_drew1) | exact HB.out)) hb); clear HB; have HB := n0_; clear n0_; (try clear hb); (try clear hb2); (try clear hk); (try clear hi))); try go_wp2_with (first | (go_at_call 29; (with_reducible refine (arraslaw1_wakes.calls kj1  t369 _ A51.out).mono ?_); rintro e w52 ⟨rfl, hb⟩; have n0_ := Aside0.mk (below_step (by repeat (first | (with_reducible first | exact HB.out | apply below_alloc | apply pw_below_drewN | apply below_drew1) | exact HB.out)) hb); clear HB; have HB := n0_; clear n0_; (try clear hb); (try clear hb2); (try clear hk); (try clear hi))))
            go_ret
            exact ⟨by first | rfl | (simp [errW_none, errW_some] <;> rfl) | (simp [*, errW_none, errW_some] <;> rfl), by repeat (first | (with_reducible first | exact HB.out | apply below_alloc | apply pw_below_drewN | apply below_drew1) | exact HB.out)⟩

/-- THE ONE PURE STATEMENT of arraslaw1_FixedLaws: yours. -/
def arraslaw1_FixedLaws.Pure : Prop := ∀ (l0 : List Int), l0.length ≤ maxLen → l0.length * 8 ≤ 140737488351232 → (∀ x ∈ l0, (Lit.int .i64 x).wf = true) → ∃ k, arraslaw1_FixedLaws.f k l0 = some true
theorem arraslaw1_FixedLaws.walk (P : arraslaw1_FixedLaws.Pure) (a0 : Option Addr) (len0 cap0 : Nat) (z0 : List Int) (w : World) (w0 : (a0 = none ∧ len0 = 0 ∧ cap0 = 0 ∧ z0 = []) ∨ ∃ x, a0 = some x ∧ len0 ≤ cap0 ∧ cap0 ≤ maxLen ∧ z0.length = cap0 ∧ (∀ i, i < z0.length → w.cell? (x.add i) = some (.int .i64 (z0.getD i 0))) ∧ ∀ n ∈ z0, (Lit.int .i64 n).wf = true) (y0 : len0 * 8 ≤ 140737488351232) :
    Calls Try.prog 8 #[.slice a0 len0 cap0] w fun e w' => e = .returned (.bool true) ∧ Below w.heap.size w w' := by
  obtain ⟨l0, rfl, hr0, hm0, hw0, hc0⟩ := ReadsInt.ofRowC w0
  obtain ⟨k, h⟩ := P l0 hm0 y0 hw0
  refine (arraslaw1_FixedLaws.calls k _ _ l0 true w (Kd.C_of_reads (d := (0 : Int)) (h1 := fun _ => rfl) hr0) hc0 h).mono ?_
  rintro e w' ⟨rfl, hd⟩
  exact ⟨rfl, hd⟩

/-! ### fixed_Check: function 36 -/
def fixed_Check.f (a0 : Int) : Option (Int) := (fixed_Is.f a0).bind fun t394 => (if t394 = true then (some 0) else (some 1))
set_option maxHeartbeats 8000000 in
set_option maxRecDepth 100000 in
theorem fixed_Check.calls (a0 : Int) (r : Int) (w : World) (h : fixed_Check.f a0 = some r) :
    Calls Try.prog 36 #[.int .i64 a0] w fun e w' => e = .returned (.int .i64 r) ∧ Drawn0 w w' := by
  have H : ((fixed_Is.f a0).bind fun t394 => (if t394 = true then (some 0) else (some 1))) = some r := h
  clear h
  replace H := Option.bind_eq_some_iff.mp H
  obtain ⟨t394, A20, H⟩ := H
  replace H : (if t394 = true then (some 0) else (some 1)) = some r := H
  have A2 := Aside0.mk A20
  clear A20
  by_cases c3 : t394 = true
  · subst c3
    have H1 : (some 0) = some r := by rw [if_pos rfl] at H; exact H
    clear H
    have H := H1
    clear H1
    obtain rfl := Option.some.inj H
    go_enter Try.func36, Try.ntmps36
    go_wp2_with (first | ((with_reducible refine gate_callee (f := 45) rfl ?_); refine goesL_ (some 4) rfl rfl Try.func45 (by kernel_rfl) rfl #[.int .i64 a0] rfl (by (try simp only [List.map_toArray, List.map_cons, List.map_nil]); first | done | rfl | (simp only [List.length_drop, List.length_take]; rfl)) ?_; (with_reducible refine (fixed_Is.calls a0 true _ A2.out).mono ?_); rintro e w' ⟨rfl, ⟨nd, rfl⟩⟩; refine ⟨_, rfl, ?_⟩))
    go_ret
    exact ⟨by first | rfl | (simp; done) | (simp [*]; done), by repeat (first | exact Drawn0.refl _ | apply Drawn0.step)⟩
  · replace c3 := Bool.eq_false_iff.mpr c3
    subst c3
    have H1 : (some 1) = some r := by rw [if_neg (show ¬ (false = true) by decide)] at H; exact H
    clear H
    have H := H1
    clear H1
    obtain rfl := Option.some.inj H
    go_enter Try.func36, Try.ntmps36
    go_wp2_with (first | ((with_reducible refine gate_callee (f := 45) rfl ?_); refine goesL_ (some 4) rfl rfl Try.func45 (by kernel_rfl) rfl #[.int .i64 a0] rfl (by (try simp only [List.map_toArray, List.map_cons, List.map_nil]); first | done | rfl | (simp only [List.length_drop, List.length_take]; rfl)) ?_; (with_reducible refine (fixed_Is.calls a0 false _ A2.out).mono ?_); rintro e w' ⟨rfl, ⟨nd, rfl⟩⟩; refine ⟨_, rfl, ?_⟩))
    go_ret
    exact ⟨by first | rfl | (simp; done) | (simp [*]; done), by repeat (first | exact Drawn0.refl _ | apply Drawn0.step)⟩

/-! ### arrasref1_Sub: function 40 -/
def arrasref1_Sub.f (a0 : Int) (a1 : Int) : Option (Int) := (arrasref1_Sat.f (wrap64 (a0 - a1))).bind fun t395 => (some t395)
set_option maxHeartbeats 8000000 in
set_option maxRecDepth 100000 in
theorem arrasref1_Sub.calls (a0 : Int) (a1 : Int) (r : Int) (w : World) (h : arrasref1_Sub.f a0 a1 = some r) :
    Calls Try.prog 40 #[.int .i64 a0, .int .i64 a1] w fun e w' => e = .returned (.int .i64 r) ∧ Below w.heap.size w w' := by
  have HB := Aside0.mk (Below.refl w.heap.size w)
  have H : ((arrasref1_Sat.f (wrap64 (a0 - a1))).bind fun t395 => (some t395)) = some r := h
  clear h
  replace H := Option.bind_eq_some_iff.mp H
  obtain ⟨t395, A30, H⟩ := H
  replace H : (some t395) = some r := H
  have A3 := Aside0.mk A30
  clear A30
  obtain rfl := Option.some.inj H
  go_enter Try.func40, Try.ntmps40
  go_wp2_with (first | ((with_reducible refine gate_callee (f := 38) rfl ?_); refine goesL_ (some 8) rfl rfl Try.func38 (by kernel_rfl) rfl #[.int .i64 (wrap64 (a0 - a1))] rfl (by (try simp only [List.map_toArray, List.map_cons, List.map_nil]); first | done | rfl | (simp only [List.length_drop, List.length_take]; rfl)) ?_; (with_reducible refine (arrasref1_Sat.calls (wrap64 (a0 - a1)) t395 _ A3.out).mono ?_); rintro e w4 ⟨rfl, hb⟩; refine ⟨_, rfl, ?_⟩; have n0_ := Aside0.mk (below_step (by repeat (first | (with_reducible first | exact HB.out | apply below_alloc | apply pw_below_drewN | apply below_drew1) | exact HB.out)) hb); clear HB; have HB := n0_; clear n0_; (try clear hb); (try clear hb2); (try clear hk); (try clear hi)))
  go_ret
  exact ⟨by first | rfl | (simp [errW_none, errW_some] <;> rfl) | (simp [*, errW_none, errW_some] <;> rfl), by repeat (first | (with_reducible first | exact HB.out | apply below_alloc | apply pw_below_drewN | apply below_drew1) | exact HB.out)⟩

-- NOT PRINTED: function 9 (arraslaw1_FixedSums)

end Go.Proofs.Ytdilliddflnbnaa.PA
