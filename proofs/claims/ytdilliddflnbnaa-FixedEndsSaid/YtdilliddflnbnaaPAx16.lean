-- Written by wprint.py, a program of this session's, over the kit's print.
import Derived.Test.YtdilliddflnbnaaPAx0
import Derived.Test.YtdilliddflnbnaaPAx10
import Derived.Test.YtdilliddflnbnaaPAx12
import Derived.Test.YtdilliddflnbnaaPAx14
namespace Go.Proofs.Ytdilliddflnbnaa.PA
open Go.RowKit Go.Proofs.YtdilliddflnbnaaW.PrintWords Go.Proofs.YtdilliddflnbnaaW.PrintLast Go.Proofs.YtdilliddflnbnaaW.PrintMore
attribute [local go_sem] max2_int min2_int max_two min_two max_three min_three max_four min_four   -- for this text's walks alone
set_option linter.unusedVariables false
set_option linter.unusedSimpArgs false

/-! ### arraslaw1_FixedEnds: function 10 -/
def arraslaw1_FixedEnds.l0 : Nat → List Int → Int → Int → Int → Int → Int → Int → Int → Int → Int → Int → Int → List Int → Int → Option (Bool)
  | 0, _, _, _, _, _, _, _, _, _, _, _, _, _, _ => none
  | k + 1, x0, x3, x5, x7, x9, x11, x13, x15, x17, x20, x22, x24, x25, x26 => if x26 < (x25.length : Int) then (if 0 ≤ x26 then (if (rd x25 x26) = 0 then (arraslaw1_FixedEnds.l0 k x0 x3 x5 x7 x9 x11 x13 x15 x17 x20 x22 x24 x25 (wrap64 (x26 + 1))) else (some false)) else (none)) else (if x3 = 1099511627776 then (if x5 = (-1099511627776) then (if x7 = 1099511627776 then (if x9 = (-1099511627776) then (if x11 = (-1) then (if x13 = 1099511627776 then (if x15 = 1099511627776 then (if x17 = 9 then ((arraslaw1_num.f x20).bind fun t465 => (if t465 = 1 then ((arraslaw1_num.f x22).bind fun t466 => (if t466 = 1 then ((arraslaw1_num.f x24).bind fun t467 => (if t467 = 1 then (if (x0.length : Int) ≥ 0 then ((arraslaw1_wakes.f k).bind fun t468 => (some t468)) else (some false)) else (some false))) else (some false))) else (some false))) else (some false)) else (some false)) else (some false)) else (some false)) else (some false)) else (some false)) else (some false)) else (some false))
def arraslaw1_FixedEnds.f (k : Nat) (l0 : List Int) : Option (Bool) := (fixed_Add.f k 1099511627776 1).bind fun bt431 => ((fixed_Sub.f (-1099511627776) 1).bind fun bt433 => ((fixed_MulDiv.f k 1099511627776 1099511627776 1).bind fun bt435 => ((fixed_MulDiv.f k 1099511627776 (-1099511627776) 1).bind fun bt437 => ((fixed_MulDiv.f k (-1) 1 1099511627776).bind fun bt439 => ((fixed_MulDiv.f k 1099511627776 1099511627776 1099511627776).bind fun bt441 => ((fixed_Clamp.f 1099511627776 5 (-1)).bind fun bt443 => ((fixed_Clamp.f 7 9 3).bind fun bt445 => ((fixed_Add.f k 1099511627777 0).bind fun bt447 => ((fixed_MulDiv.f k 1 1 0).bind fun bt449 => ((fixed_Clamp.f 1 2 (-1099511627778)).bind fun bt451 => ((arraslaw1_num.f bt431.2).bind fun t453 => ((arraslaw1_num.f bt433.2).bind fun t454 => ((arraslaw1_num.f bt435.2).bind fun t455 => ((arraslaw1_num.f bt437.2).bind fun t456 => ((arraslaw1_num.f bt439.2).bind fun t457 => ((arraslaw1_num.f bt441.2).bind fun t458 => ((arraslaw1_num.f bt443.2).bind fun t459 => ((arraslaw1_num.f bt445.2).bind fun t460 => (arraslaw1_FixedEnds.l0 k l0 bt431.1 bt433.1 bt435.1 bt437.1 bt439.1 bt441.1 bt443.1 bt445.1 bt447.2 bt449.2 bt451.2 (([t453, t454, t455, t456, t457, t458, t459, t460] : List Int)) 0)))))))))))))))))))
theorem arraslaw1_FixedEnds.mono_l : ∀ k, (∀ y0 y1 y2 y3 y4 y5 y6 y7 y8 y9 y10 y11 y12 y13, LeO (arraslaw1_FixedEnds.l0 k y0 y1 y2 y3 y4 y5 y6 y7 y8 y9 y10 y11 y12 y13) (arraslaw1_FixedEnds.l0 (k + 1) y0 y1 y2 y3 y4 y5 y6 y7 y8 y9 y10 y11 y12 y13))
  | 0 => fun _ _ _ _ _ _ _ _ _ _ _ _ _ _ r h => by simp [arraslaw1_FixedEnds.l0] at h
  | k + 1 => by
    have ih0 := arraslaw1_FixedEnds.mono_l k
    · intro y0 y1 y2 y3 y4 y5 y6 y7 y8 y9 y10 y11 y12 y13
      unfold arraslaw1_FixedEnds.l0
      repeat' first
      | (with_reducible exact ih0 _ _ _ _ _ _ _ _ _ _ _ _ _ _)
      | (with_reducible exact arraslaw1_wakes.mono _)
      | (with_reducible exact fixed_Add.mono _ _ _)
      | (with_reducible exact fixed_MulDiv.mono _ _ _ _)
      | (with_reducible exact LeO.refl _)
      | (with_reducible exact LeO.none _)
      | (with_reducible refine LeO.ite ?_ ?_)
      | (with_reducible refine LeO.bind ?_ (fun _ => ?_))
      | exact ih0 _ _ _ _ _ _ _ _ _ _ _ _ _ _
      | exact arraslaw1_wakes.mono _
      | exact fixed_Add.mono _ _ _
      | exact fixed_MulDiv.mono _ _ _ _
      | exact LeO.none _
      | refine LeO.ite ?_ ?_
      | refine LeO.bind ?_ (fun _ => ?_)
theorem arraslaw1_FixedEnds.mono : ∀ a0 k, LeO (arraslaw1_FixedEnds.f k a0) (arraslaw1_FixedEnds.f (k + 1) a0) := by
  intro a0 k
  have ih0 := arraslaw1_FixedEnds.mono_l k
  unfold arraslaw1_FixedEnds.f
  repeat' first
      | (with_reducible exact ih0 _ _ _ _ _ _ _ _ _ _ _ _ _ _)
      | (with_reducible exact arraslaw1_wakes.mono _)
      | (with_reducible exact fixed_Add.mono _ _ _)
      | (with_reducible exact fixed_MulDiv.mono _ _ _ _)
      | (with_reducible exact LeO.refl _)
      | (with_reducible exact LeO.none _)
      | (with_reducible refine LeO.ite ?_ ?_)
      | (with_reducible refine LeO.bind ?_ (fun _ => ?_))
      | exact ih0 _ _ _ _ _ _ _ _ _ _ _ _ _ _
      | exact arraslaw1_wakes.mono _
      | exact fixed_Add.mono _ _ _
      | exact fixed_MulDiv.mono _ _ _ _
      | exact LeO.none _
      | refine LeO.ite ?_ ?_
      | refine LeO.bind ?_ (fun _ => ?_)
set_option maxHeartbeats 8000000 in
set_option maxRecDepth 100000 in
theorem arraslaw1_FixedEnds.calls (k : Nat) (A0 : Option Addr) (c0 : Nat) (l0 : List Int) (r : Bool) (w : World) (hr0 : Kd.C (Kd.int .i64) w A0 l0.length l0) (hc0 : l0.length ≤ c0) (h : arraslaw1_FixedEnds.f k l0 = some r) :
    Calls Try.prog 10 #[.slice A0 l0.length c0] w fun e w' => e = .returned (.bool r) ∧ Below w.heap.size w w' := by
  have HR0 := Aside0.mk hr0
  have HC0 := Aside0.mk hc0
  clear hr0 hc0
  have HB := Aside0.mk (Below.refl w.heap.size w)
  have H : ((fixed_Add.f k 1099511627776 1).bind fun bt431 => ((fixed_Sub.f (-1099511627776) 1).bind fun bt433 => ((fixed_MulDiv.f k 1099511627776 1099511627776 1).bind fun bt435 => ((fixed_MulDiv.f k 1099511627776 (-1099511627776) 1).bind fun bt437 => ((fixed_MulDiv.f k (-1) 1 1099511627776).bind fun bt439 => ((fixed_MulDiv.f k 1099511627776 1099511627776 1099511627776).bind fun bt441 => ((fixed_Clamp.f 1099511627776 5 (-1)).bind fun bt443 => ((fixed_Clamp.f 7 9 3).bind fun bt445 => ((fixed_Add.f k 1099511627777 0).bind fun bt447 => ((fixed_MulDiv.f k 1 1 0).bind fun bt449 => ((fixed_Clamp.f 1 2 (-1099511627778)).bind fun bt451 => ((arraslaw1_num.f bt431.2).bind fun t453 => ((arraslaw1_num.f bt433.2).bind fun t454 => ((arraslaw1_num.f bt435.2).bind fun t455 => ((arraslaw1_num.f bt437.2).bind fun t456 => ((arraslaw1_num.f bt439.2).bind fun t457 => ((arraslaw1_num.f bt441.2).bind fun t458 => ((arraslaw1_num.f bt443.2).bind fun t459 => ((arraslaw1_num.f bt445.2).bind fun t460 => (arraslaw1_FixedEnds.l0 k l0 bt431.1 bt433.1 bt435.1 bt437.1 bt439.1 bt441.1 bt443.1 bt445.1 bt447.2 bt449.2 bt451.2 (([t453, t454, t455, t456, t457, t458, t459, t460] : List Int)) 0)))))))))))))))))))) = some r := h
  clear h
  replace H := Option.bind_eq_some_iff.mp H
  obtain ⟨⟨t431, t432⟩, A20, H⟩ := H
  replace H : ((fixed_Sub.f (-1099511627776) 1).bind fun bt433 => ((fixed_MulDiv.f k 1099511627776 1099511627776 1).bind fun bt435 => ((fixed_MulDiv.f k 1099511627776 (-1099511627776) 1).bind fun bt437 => ((fixed_MulDiv.f k (-1) 1 1099511627776).bind fun bt439 => ((fixed_MulDiv.f k 1099511627776 1099511627776 1099511627776).bind fun bt441 => ((fixed_Clamp.f 1099511627776 5 (-1)).bind fun bt443 => ((fixed_Clamp.f 7 9 3).bind fun bt445 => ((fixed_Add.f k 1099511627777 0).bind fun bt447 => ((fixed_MulDiv.f k 1 1 0).bind fun bt449 => ((fixed_Clamp.f 1 2 (-1099511627778)).bind fun bt451 => ((arraslaw1_num.f t432).bind fun t453 => ((arraslaw1_num.f bt433.2).bind fun t454 => ((arraslaw1_num.f bt435.2).bind fun t455 => ((arraslaw1_num.f bt437.2).bind fun t456 => ((arraslaw1_num.f bt439.2).bind fun t457 => ((arraslaw1_num.f bt441.2).bind fun t458 => ((arraslaw1_num.f bt443.2).bind fun t459 => ((arraslaw1_num.f bt445.2).bind fun t460 => (arraslaw1_FixedEnds.l0 k l0 t431 bt433.1 bt435.1 bt437.1 bt439.1 bt441.1 bt443.1 bt445.1 bt447.2 bt449.2 bt451.2 (([t453, t454, t455, t456, t457, t458, t459, t460] : List Int)) 0))))))))))))))))))) = some r := H
  have A2 := Aside0.mk A20
  clear A20
  replace H := Option.bind_eq_some_iff.mp H
  obtain ⟨⟨t433, t434⟩, A30, H⟩ := H
  replace H : ((fixed_MulDiv.f k 1099511627776 1099511627776 1).bind fun bt435 => ((fixed_MulDiv.f k 1099511627776 (-1099511627776) 1).bind fun bt437 => ((fixed_MulDiv.f k (-1) 1 1099511627776).bind fun bt439 => ((fixed_MulDiv.f k 1099511627776 1099511627776 1099511627776).bind fun bt441 => ((fixed_Clamp.f 1099511627776 5 (-1)).bind fun bt443 => ((fixed_Clamp.f 7 9 3).bind fun bt445 => ((fixed_Add.f k 1099511627777 0).bind fun bt447 => ((fixed_MulDiv.f k 1 1 0).bind fun bt449 => ((fixed_Clamp.f 1 2 (-1099511627778)).bind fun bt451 => ((arraslaw1_num.f t432).bind fun t453 => ((arraslaw1_num.f t434).bind fun t454 => ((arraslaw1_num.f bt435.2).bind fun t455 => ((arraslaw1_num.f bt437.2).bind fun t456 => ((arraslaw1_num.f bt439.2).bind fun t457 => ((arraslaw1_num.f bt441.2).bind fun t458 => ((arraslaw1_num.f bt443.2).bind fun t459 => ((arraslaw1_num.f bt445.2).bind fun t460 => (arraslaw1_FixedEnds.l0 k l0 t431 t433 bt435.1 bt437.1 bt439.1 bt441.1 bt443.1 bt445.1 bt447.2 bt449.2 bt451.2 (([t453, t454, t455, t456, t457, t458, t459, t460] : List Int)) 0)))))))))))))))))) = some r := H
  have A3 := Aside0.mk A30
  clear A30
  replace H := Option.bind_eq_some_iff.mp H
  obtain ⟨⟨t435, t436⟩, A40, H⟩ := H
  replace H : ((fixed_MulDiv.f k 1099511627776 (-1099511627776) 1).bind fun bt437 => ((fixed_MulDiv.f k (-1) 1 1099511627776).bind fun bt439 => ((fixed_MulDiv.f k 1099511627776 1099511627776 1099511627776).bind fun bt441 => ((fixed_Clamp.f 1099511627776 5 (-1)).bind fun bt443 => ((fixed_Clamp.f 7 9 3).bind fun bt445 => ((fixed_Add.f k 1099511627777 0).bind fun bt447 => ((fixed_MulDiv.f k 1 1 0).bind fun bt449 => ((fixed_Clamp.f 1 2 (-1099511627778)).bind fun bt451 => ((arraslaw1_num.f t432).bind fun t453 => ((arraslaw1_num.f t434).bind fun t454 => ((arraslaw1_num.f t436).bind fun t455 => ((arraslaw1_num.f bt437.2).bind fun t456 => ((arraslaw1_num.f bt439.2).bind fun t457 => ((arraslaw1_num.f bt441.2).bind fun t458 => ((arraslaw1_num.f bt443.2).bind fun t459 => ((arraslaw1_num.f bt445.2).bind fun t460 => (arraslaw1_FixedEnds.l0 k l0 t431 t433 t435 bt437.1 bt439.1 bt441.1 bt443.1 bt445.1 bt447.2 bt449.2 bt451.2 (([t453, t454, t455, t456, t457, t458, t459, t460] : List Int)) 0))))))))))))))))) = some r := H
  have A4 := Aside0.mk A40
  clear A40
  replace H := Option.bind_eq_some_iff.mp H
  obtain ⟨⟨t437, t438⟩, A50, H⟩ := H
  replace H : ((fixed_MulDiv.f k (-1) 1 1099511627776).bind fun bt439 => ((fixed_MulDiv.f k 1099511627776 1099511627776 1099511627776).bind fun bt441 => ((fixed_Clamp.f 1099511627776 5 (-1)).bind fun bt443 => ((fixed_Clamp.f 7 9 3).bind fun bt445 => ((fixed_Add.f k 1099511627777 0).bind fun bt447 => ((fixed_MulDiv.f k 1 1 0).bind fun bt449 => ((fixed_Clamp.f 1 2 (-1099511627778)).bind fun bt451 => ((arraslaw1_num.f t432).bind fun t453 => ((arraslaw1_num.f t434).bind fun t454 => ((arraslaw1_num.f t436).bind fun t455 => ((arraslaw1_num.f t438).bind fun t456 => ((arraslaw1_num.f bt439.2).bind fun t457 => ((arraslaw1_num.f bt441.2).bind fun t458 => ((arraslaw1_num.f bt443.2).bind fun t459 => ((arraslaw1_num.f bt445.2).bind fun t460 => (arraslaw1_FixedEnds.l0 k l0 t431 t433 t435 t437 bt439.1 bt441.1 bt443.1 bt445.1 bt447.2 bt449.2 bt451.2 (([t453, t454, t455, t456, t457, t458, t459, t460] : List Int)) 0)))))))))))))))) = some r := H
  have A5 := Aside0.mk A50
  clear A50
  replace H := Option.bind_eq_some_iff.mp H
  obtain ⟨⟨t439, t440⟩, A60, H⟩ := H
  replace H : ((fixed_MulDiv.f k 1099511627776 1099511627776 1099511627776).bind fun bt441 => ((fixed_Clamp.f 1099511627776 5 (-1)).bind fun bt443 => ((fixed_Clamp.f 7 9 3).bind fun bt445 => ((fixed_Add.f k 1099511627777 0).bind fun bt447 => ((fixed_MulDiv.f k 1 1 0).bind fun bt449 => ((fixed_Clamp.f 1 2 (-1099511627778)).bind fun bt451 => ((arraslaw1_num.f t432).bind fun t453 => ((arraslaw1_num.f t434).bind fun t454 => ((arraslaw1_num.f t436).bind fun t455 => ((arraslaw1_num.f t438).bind fun t456 => ((arraslaw1_num.f t440).bind fun t457 => ((arraslaw1_num.f bt441.2).bind fun t458 => ((arraslaw1_num.f bt443.2).bind fun t459 => ((arraslaw1_num.f bt445.2).bind fun t460 => (arraslaw1_FixedEnds.l0 k l0 t431 t433 t435 t437 t439 bt441.1 bt443.1 bt445.1 bt447.2 bt449.2 bt451.2 (([t453, t454, t455, t456, t457, t458, t459, t460] : List Int)) 0))))))))))))))) = some r := H
  have A6 := Aside0.mk A60
  clear A60
  replace H := Option.bind_eq_some_iff.mp H
  obtain ⟨⟨t441, t442⟩, A70, H⟩ := H
  replace H : ((fixed_Clamp.f 1099511627776 5 (-1)).bind fun bt443 => ((fixed_Clamp.f 7 9 3).bind fun bt445 => ((fixed_Add.f k 1099511627777 0).bind fun bt447 => ((fixed_MulDiv.f k 1 1 0).bind fun bt449 => ((fixed_Clamp.f 1 2 (-1099511627778)).bind fun bt451 => ((arraslaw1_num.f t432).bind fun t453 => ((arraslaw1_num.f t434).bind fun t454 => ((arraslaw1_num.f t436).bind fun t455 => ((arraslaw1_num.f t438).bind fun t456 => ((arraslaw1_num.f t440).bind fun t457 => ((arraslaw1_num.f t442).bind fun t458 => ((arraslaw1_num.f bt443.2).bind fun t459 => ((arraslaw1_num.f bt445.2).bind fun t460 => (arraslaw1_FixedEnds.l0 k l0 t431 t433 t435 t437 t439 t441 bt443.1 bt445.1 bt447.2 bt449.2 bt451.2 (([t453, t454, t455, t456, t457, t458, t459, t460] : List Int)) 0)))))))))))))) = some r := H
  have A7 := Aside0.mk A70
  clear A70
  replace H := Option.bind_eq_some_iff.mp H
  obtain ⟨⟨t443, t444⟩, A80, H⟩ := H
  replace H : ((fixed_Clamp.f 7 9 3).bind fun bt445 => ((fixed_Add.f k 1099511627777 0).bind fun bt447 => ((fixed_MulDiv.f k 1 1 0).bind fun bt449 => ((fixed_Clamp.f 1 2 (-1099511627778)).bind fun bt451 => ((arraslaw1_num.f t432).bind fun t453 => ((arraslaw1_num.f t434).bind fun t454 => ((arraslaw1_num.f t436).bind fun t455 => ((arraslaw1_num.f t438).bind fun t456 => ((arraslaw1_num.f t440).bind fun t457 => ((arraslaw1_num.f t442).bind fun t458 => ((arraslaw1_num.f t444).bind fun t459 => ((arraslaw1_num.f bt445.2).bind fun t460 => (arraslaw1_FixedEnds.l0 k l0 t431 t433 t435 t437 t439 t441 t443 bt445.1 bt447.2 bt449.2 bt451.2 (([t453, t454, t455, t456, t457, t458, t459, t460] : List Int)) 0))))))))))))) = some r := H
  have A8 := Aside0.mk A80
  clear A80
  replace H := Option.bind_eq_some_iff.mp H
  obtain ⟨⟨t445, t446⟩, A90, H⟩ := H
  replace H : ((fixed_Add.f k 1099511627777 0).bind fun bt447 => ((fixed_MulDiv.f k 1 1 0).bind fun bt449 => ((fixed_Clamp.f 1 2 (-1099511627778)).bind fun bt451 => ((arraslaw1_num.f t432).bind fun t453 => ((arraslaw1_num.f t434).bind fun t454 => ((arraslaw1_num.f t436).bind fun t455 => ((arraslaw1_num.f t438).bind fun t456 => ((arraslaw1_num.f t440).bind fun t457 => ((arraslaw1_num.f t442).bind fun t458 => ((arraslaw1_num.f t444).bind fun t459 => ((arraslaw1_num.f t446).bind fun t460 => (arraslaw1_FixedEnds.l0 k l0 t431 t433 t435 t437 t439 t441 t443 t445 bt447.2 bt449.2 bt451.2 (([t453, t454, t455, t456, t457, t458, t459, t460] : List Int)) 0)))))))))))) = some r := H
  have A9 := Aside0.mk A90
  clear A90
  replace H := Option.bind_eq_some_iff.mp H
  obtain ⟨⟨t447, t448⟩, A100, H⟩ := H
  replace H : ((fixed_MulDiv.f k 1 1 0).bind fun bt449 => ((fixed_Clamp.f 1 2 (-1099511627778)).bind fun bt451 => ((arraslaw1_num.f t432).bind fun t453 => ((arraslaw1_num.f t434).bind fun t454 => ((arraslaw1_num.f t436).bind fun t455 => ((arraslaw1_num.f t438).bind fun t456 => ((arraslaw1_num.f t440).bind fun t457 => ((arraslaw1_num.f t442).bind fun t458 => ((arraslaw1_num.f t444).bind fun t459 => ((arraslaw1_num.f t446).bind fun t460 => (arraslaw1_FixedEnds.l0 k l0 t431 t433 t435 t437 t439 t441 t443 t445 t448 bt449.2 bt451.2 (([t453, t454, t455, t456, t457, t458, t459, t460] : List Int)) 0))))))))))) = some r := H
  have A10 := Aside0.mk A100
  clear A100
  replace H := Option.bind_eq_some_iff.mp H
  obtain ⟨⟨t449, t450⟩, A110, H⟩ := H
  replace H : ((fixed_Clamp.f 1 2 (-1099511627778)).bind fun bt451 => ((arraslaw1_num.f t432).bind fun t453 => ((arraslaw1_num.f t434).bind fun t454 => ((arraslaw1_num.f t436).bind fun t455 => ((arraslaw1_num.f t438).bind fun t456 => ((arraslaw1_num.f t440).bind fun t457 => ((arraslaw1_num.f t442).bind fun t458 => ((arraslaw1_num.f t444).bind fun t459 => ((arraslaw1_num.f t446).bind fun t460 => (arraslaw1_FixedEnds.l0 k l0 t431 t433 t435 t437 t439 t441 t443 t445 t448 t450 bt451.2 (([t453, t454, t455, t456, t457, t458, t459, t460] : List Int)) 0)))))))))) = some r := H
  have A11 := Aside0.mk A110
  clear A110
  replace H := Option.bind_eq_some_iff.mp H
  obtain ⟨⟨t451, t452⟩, A120, H⟩ := H
  replace H : ((arraslaw1_num.f t432).bind fun t453 => ((arraslaw1_num.f t434).bind fun t454 => ((arraslaw1_num.f t436).bind fun t455 => ((arraslaw1_num.f t438).bind fun t456 => ((arraslaw1_num.f t440).bind fun t457 => ((arraslaw1_num.f t442).bind fun t458 => ((arraslaw1_num.f t444).bind fun t459 => ((arraslaw1_num.f t446).bind fun t460 => (arraslaw1_FixedEnds.l0 k l0 t431 t433 t435 t437 t439 t441 t443 t445 t448 t450 t452 (([t453, t454, t455, t456, t457, t458, t459, t460] : List Int)) 0))))))))) = some r := H
  have A12 := Aside0.mk A120
  clear A120
  replace H := Option.bind_eq_some_iff.mp H
  obtain ⟨t453, A130, H⟩ := H
  replace H : ((arraslaw1_num.f t434).bind fun t454 => ((arraslaw1_num.f t436).bind fun t455 => ((arraslaw1_num.f t438).bind fun t456 => ((arraslaw1_num.f t440).bind fun t457 => ((arraslaw1_num.f t442).bind fun t458 => ((arraslaw1_num.f t444).bind fun t459 => ((arraslaw1_num.f t446).bind fun t460 => (arraslaw1_FixedEnds.l0 k l0 t431 t433 t435 t437 t439 t441 t443 t445 t448 t450 t452 (([t453, t454, t455, t456, t457, t458, t459, t460] : List Int)) 0)))))))) = some r := H
  have A13 := Aside0.mk A130
  clear A130
  replace H := Option.bind_eq_some_iff.mp H
  obtain ⟨t454, A140, H⟩ := H
  replace H : ((arraslaw1_num.f t436).bind fun t455 => ((arraslaw1_num.f t438).bind fun t456 => ((arraslaw1_num.f t440).bind fun t457 => ((arraslaw1_num.f t442).bind fun t458 => ((arraslaw1_num.f t444).bind fun t459 => ((arraslaw1_num.f t446).bind fun t460 => (arraslaw1_FixedEnds.l0 k l0 t431 t433 t435 t437 t439 t441 t443 t445 t448 t450 t452 (([t453, t454, t455, t456, t457, t458, t459, t460] : List Int)) 0))))))) = some r := H
  have A14 := Aside0.mk A140
  clear A140
  replace H := Option.bind_eq_some_iff.mp H
  obtain ⟨t455, A150, H⟩ := H
  replace H : ((arraslaw1_num.f t438).bind fun t456 => ((arraslaw1_num.f t440).bind fun t457 => ((arraslaw1_num.f t442).bind fun t458 => ((arraslaw1_num.f t444).bind fun t459 => ((arraslaw1_num.f t446).bind fun t460 => (arraslaw1_FixedEnds.l0 k l0 t431 t433 t435 t437 t439 t441 t443 t445 t448 t450 t452 (([t453, t454, t455, t456, t457, t458, t459, t460] : List Int)) 0)))))) = some r := H
  have A15 := Aside0.mk A150
  clear A150
  replace H := Option.bind_eq_some_iff.mp H
  obtain ⟨t456, A160, H⟩ := H
  replace H : ((arraslaw1_num.f t440).bind fun t457 => ((arraslaw1_num.f t442).bind fun t458 => ((arraslaw1_num.f t444).bind fun t459 => ((arraslaw1_num.f t446).bind fun t460 => (arraslaw1_FixedEnds.l0 k l0 t431 t433 t435 t437 t439 t441 t443 t445 t448 t450 t452 (([t453, t454, t455, t456, t457, t458, t459, t460] : List Int)) 0))))) = some r := H
  have A16 := Aside0.mk A160
  clear A160
  replace H := Option.bind_eq_some_iff.mp H
  obtain ⟨t457, A170, H⟩ := H
  replace H : ((arraslaw1_num.f t442).bind fun t458 => ((arraslaw1_num.f t444).bind fun t459 => ((arraslaw1_num.f t446).bind fun t460 => (arraslaw1_FixedEnds.l0 k l0 t431 t433 t435 t437 t439 t441 t443 t445 t448 t450 t452 (([t453, t454, t455, t456, t457, t458, t459, t460] : List Int)) 0)))) = some r := H
  have A17 := Aside0.mk A170
  clear A170
  replace H := Option.bind_eq_some_iff.mp H
  obtain ⟨t458, A180, H⟩ := H
  replace H : ((arraslaw1_num.f t444).bind fun t459 => ((arraslaw1_num.f t446).bind fun t460 => (arraslaw1_FixedEnds.l0 k l0 t431 t433 t435 t437 t439 t441 t443 t445 t448 t450 t452 (([t453, t454, t455, t456, t457, t458, t459, t460] : List Int)) 0))) = some r := H
  have A18 := Aside0.mk A180
  clear A180
  replace H := Option.bind_eq_some_iff.mp H
  obtain ⟨t459, A190, H⟩ := H
  replace H : ((arraslaw1_num.f t446).bind fun t460 => (arraslaw1_FixedEnds.l0 k l0 t431 t433 t435 t437 t439 t441 t443 t445 t448 t450 t452 (([t453, t454, t455, t456, t457, t458, t459, t460] : List Int)) 0)) = some r := H
  have A19 := Aside0.mk A190
  clear A190
  replace H := Option.bind_eq_some_iff.mp H
  obtain ⟨t460, A200, H⟩ := H
  replace H : (arraslaw1_FixedEnds.l0 k l0 t431 t433 t435 t437 t439 t441 t443 t445 t448 t450 t452 (([t453, t454, t455, t456, t457, t458, t459, t460] : List Int)) 0) = some r := H
  have A20 := Aside0.mk A200
  clear A200
  obtain ⟨y461, hy461⟩ : ∃ y_ : List Int, y_ = (([t453, t454, t455, t456, t457, t458, t459, t460] : List Int)) := ⟨_, rfl⟩
  replace H : (arraslaw1_FixedEnds.l0 k l0 t431 t433 t435 t437 t439 t441 t443 t445 t448 t450 t452 y461 0) = some r := by first | (rw [hy461]; with_reducible exact H) | (have H2_ := (Option.bind_some _ _).symm.trans H; rw [hy461]; with_reducible exact H2_) | (have H2_ := (Option.bind_some _ _).symm.trans H; with_reducible exact H2_) | with_reducible exact H | (rw [hy461]; exact H) | exact H
  have Ny461 := Aside0.mk hy461
  clear hy461
  have H' := Aside0.mk H
  clear H
  go_enter Try.func10, Try.ntmps10
  go_wp2_with (first | ((with_reducible refine gate_callee (f := 33) rfl ?_); refine goesL_ (some 28) rfl rfl Try.func33 (by kernel_rfl) rfl #[.int .i64 1099511627776, .int .i64 1] rfl (by (try simp only [List.map_toArray, List.map_cons, List.map_nil]); first | done | rfl | (simp only [List.length_drop, List.length_take]; rfl)) ?_; (with_reducible refine (fixed_Add.calls k 1099511627776 1 t431 t432 _ A2.out).mono ?_); rintro e w21 ⟨rfl, hb⟩; refine ⟨_, rfl, ?_⟩; have n0_ := Aside0.mk (below_step (by repeat (first | (with_reducible first | exact HB.out | apply below_alloc | apply pw_below_drewN | apply below_drew1) | exact HB.out)) hb); clear HB; have HB := n0_; clear n0_; (try clear hb); (try clear hb2); (try clear hk); (try clear hi)) | ((with_reducible refine gate_callee (f := 34) rfl ?_); refine goesL_ (some 32) rfl rfl Try.func34 (by kernel_rfl) rfl #[.int .i64 (-1099511627776), .int .i64 1] rfl (by (try simp only [List.map_toArray, List.map_cons, List.map_nil]); first | done | rfl | (simp only [List.length_drop, List.length_take]; rfl)) ?_; (with_reducible refine (fixed_Sub.calls (-1099511627776) 1 t433 t434 _ A3.out).mono ?_); rintro e w22 ⟨rfl, hb⟩; refine ⟨_, rfl, ?_⟩; have n0_ := Aside0.mk (below_step (by repeat (first | (with_reducible first | exact HB.out | apply below_alloc | apply pw_below_drewN | apply below_drew1) | exact HB.out)) hb); clear HB; have HB := n0_; clear n0_; (try clear hb); (try clear hb2); (try clear hk); (try clear hi)) | ((with_reducible refine gate_callee (f := 25) rfl ?_); refine goesL_ (some 36) rfl rfl Try.func25 (by kernel_rfl) rfl #[.int .i64 1099511627776, .int .i64 1099511627776, .int .i64 1] rfl (by (try simp only [List.map_toArray, List.map_cons, List.map_nil]); first | done | rfl | (simp only [List.length_drop, List.length_take]; rfl)) ?_; (with_reducible refine (fixed_MulDiv.calls k 1099511627776 1099511627776 1 t435 t436 _ A4.out).mono ?_); rintro e w23 ⟨rfl, hb⟩; refine ⟨_, rfl, ?_⟩; have n0_ := Aside0.mk (below_step (by repeat (first | (with_reducible first | exact HB.out | apply below_alloc | apply pw_below_drewN | apply below_drew1) | exact HB.out)) hb); clear HB; have HB := n0_; clear n0_; (try clear hb); (try clear hb2); (try clear hk); (try clear hi)) | ((with_reducible refine gate_callee (f := 25) rfl ?_); refine goesL_ (some 40) rfl rfl Try.func25 (by kernel_rfl) rfl #[.int .i64 1099511627776, .int .i64 (-1099511627776), .int .i64 1] rfl (by (try simp only [List.map_toArray, List.map_cons, List.map_nil]); first | done | rfl | (simp only [List.length_drop, List.length_take]; rfl)) ?_; (with_reducible refine (fixed_MulDiv.calls k 1099511627776 (-1099511627776) 1 t437 t438 _ A5.out).mono ?_); rintro e w24 ⟨rfl, hb⟩; refine ⟨_, rfl, ?_⟩; have n0_ := Aside0.mk (below_step (by repeat (first | (with_reducible first | exact HB.out | apply below_alloc | apply pw_below_drewN | apply below_drew1) | exact HB.out)) hb); clear HB; have HB := n0_; clear n0_; (try clear hb); (try clear hb2); (try clear hk); (try clear hi)) | ((with_reducible refine gate_callee (f := 25) rfl ?_); refine goesL_ (some 44) rfl rfl Try.func25 (by kernel_rfl) rfl #[.int .i64 (-1), .int .i64 1, .int .i64 1099511627776] rfl (by (try simp only [List.map_toArray, List.map_cons, List.map_nil]); first | done | rfl | (simp only [List.length_drop, List.length_take]; rfl)) ?_; (with_reducible refine (fixed_MulDiv.calls k (-1) 1 1099511627776 t439 t440 _ A6.out).mono ?_); rintro e w25 ⟨rfl, hb⟩; refine ⟨_, rfl, ?_⟩; have n0_ := Aside0.mk (below_step (by repeat (first | (with_reducible first | exact HB.out | apply below_alloc | apply pw_below_drewN | apply below_drew1) | exact HB.out)) hb); clear HB; have HB := n0_; clear n0_; (try clear hb); (try clear hb2); (try clear hk); (try clear hi)) | ((with_reducible refine gate_callee (f := 25) rfl ?_); refine goesL_ (some 48) rfl rfl Try.func25 (by kernel_rfl) rfl #[.int .i64 1099511627776, .int .i64 1099511627776, .int .i64 1099511627776] rfl (by (try simp only [List.map_toArray, List.map_cons, List.map_nil]); first | done | rfl | (simp only [List.length_drop, List.length_take]; rfl)) ?_; (with_reducible refine (fixed_MulDiv.calls k 1099511627776 1099511627776 1099511627776 t441 t442 _ A7.out).mono ?_); rintro e w26 ⟨rfl, hb⟩; refine ⟨_, rfl, ?_⟩; have n0_ := Aside0.mk (below_step (by repeat (first | (with_reducible first | exact HB.out | apply below_alloc | apply pw_below_drewN | apply below_drew1) | exact HB.out)) hb); clear HB; have HB := n0_; clear n0_; (try clear hb); (try clear hb2); (try clear hk); (try clear hi)) | ((with_reducible refine gate_callee (f := 31) rfl ?_); refine goesL_ (some 52) rfl rfl Try.func31 (by kernel_rfl) rfl #[.int .i64 1099511627776, .int .i64 5, .int .i64 (-1)] rfl (by (try simp only [List.map_toArray, List.map_cons, List.map_nil]); first | done | rfl | (simp only [List.length_drop, List.length_take]; rfl)) ?_; (with_reducible refine (fixed_Clamp.calls 1099511627776 5 (-1) t443 t444 _ A8.out).mono ?_); rintro e w27 ⟨rfl, hb⟩; refine ⟨_, rfl, ?_⟩; have n0_ := Aside0.mk (below_step (by repeat (first | (with_reducible first | exact HB.out | apply below_alloc | apply pw_below_drewN | apply below_drew1) | exact HB.out)) hb); clear HB; have HB := n0_; clear n0_; (try clear hb); (try clear hb2); (try clear hk); (try clear hi)) | ((with_reducible refine gate_callee (f := 31) rfl ?_); refine goesL_ (some 56) rfl rfl Try.func31 (by kernel_rfl) rfl #[.int .i64 7, .int .i64 9, .int .i64 3] rfl (by (try simp only [List.map_toArray, List.map_cons, List.map_nil]); first | done | rfl | (simp only [List.length_drop, List.length_take]; rfl)) ?_; (with_reducible refine (fixed_Clamp.calls 7 9 3 t445 t446 _ A9.out).mono ?_); rintro e w28 ⟨rfl, hb⟩; refine ⟨_, rfl, ?_⟩; have n0_ := Aside0.mk (below_step (by repeat (first | (with_reducible first | exact HB.out | apply below_alloc | apply pw_below_drewN | apply below_drew1) | exact HB.out)) hb); clear HB; have HB := n0_; clear n0_; (try clear hb); (try clear hb2); (try clear hk); (try clear hi)) | ((with_reducible refine gate_callee (f := 33) rfl ?_); refine goesL_ (some 60) rfl rfl Try.func33 (by kernel_rfl) rfl #[.int .i64 1099511627777, .int .i64 0] rfl (by (try simp only [List.map_toArray, List.map_cons, List.map_nil]); first | done | rfl | (simp only [List.length_drop, List.length_take]; rfl)) ?_; (with_reducible refine (fixed_Add.calls k 1099511627777 0 t447 t448 _ A10.out).mono ?_); rintro e w29 ⟨rfl, hb⟩; refine ⟨_, rfl, ?_⟩; have n0_ := Aside0.mk (below_step (by repeat (first | (with_reducible first | exact HB.out | apply below_alloc | apply pw_below_drewN | apply below_drew1) | exact HB.out)) hb); clear HB; have HB := n0_; clear n0_; (try clear hb); (try clear hb2); (try clear hk); (try clear hi)) | ((with_reducible refine gate_callee (f := 25) rfl ?_); refine goesL_ (some 64) rfl rfl Try.func25 (by kernel_rfl) rfl #[.int .i64 1, .int .i64 1, .int .i64 0] rfl (by (try simp only [List.map_toArray, List.map_cons, List.map_nil]); first | done | rfl | (simp only [List.length_drop, List.length_take]; rfl)) ?_; (with_reducible refine (fixed_MulDiv.calls k 1 1 0 t449 t450 _ A11.out).mono ?_); rintro e w30 ⟨rfl, hb⟩; refine ⟨_, rfl, ?_⟩; have n0_ := Aside0.mk (below_step (by repeat (first | (with_reducible first | exact HB.out | apply below_alloc | apply pw_below_drewN | apply below_drew1) | exact HB.out)) hb); clear HB; have HB := n0_; clear n0_; (try clear hb); (try clear hb2); (try clear hk); (try clear hi)) | ((with_reducible refine gate_callee (f := 31) rfl ?_); refine goesL_ (some 68) rfl rfl Try.func31 (by kernel_rfl) rfl #[.int .i64 1, .int .i64 2, .int .i64 (-1099511627778)] rfl (by (try simp only [List.map_toArray, List.map_cons, List.map_nil]); first | done | rfl | (simp only [List.length_drop, List.length_take]; rfl)) ?_; (with_reducible refine (fixed_Clamp.calls 1 2 (-1099511627778) t451 t452 _ A12.out).mono ?_); rintro e w31 ⟨rfl, hb⟩; refine ⟨_, rfl, ?_⟩; have n0_ := Aside0.mk (below_step (by repeat (first | (with_reducible first | exact HB.out | apply below_alloc | apply pw_below_drewN | apply below_drew1) | exact HB.out)) hb); clear HB; have HB := n0_; clear n0_; (try clear hb); (try clear hb2); (try clear hk); (try clear hi)) | ((with_reducible refine gate_callee (f := 35) rfl ?_); refine goesL_ (some 72) rfl rfl Try.func35 (by kernel_rfl) rfl #[.int .i64 t432] rfl (by (try simp only [List.map_toArray, List.map_cons, List.map_nil]); first | done | rfl | (simp only [List.length_drop, List.length_take]; rfl)) ?_; (with_reducible refine (arraslaw1_num.calls t432 t453 _ A13.out).mono ?_); rintro e w' ⟨rfl, ⟨nd, rfl⟩⟩; refine ⟨_, rfl, ?_⟩) | ((with_reducible refine gate_callee (f := 35) rfl ?_); refine goesL_ (some 74) rfl rfl Try.func35 (by kernel_rfl) rfl #[.int .i64 t434] rfl (by (try simp only [List.map_toArray, List.map_cons, List.map_nil]); first | done | rfl | (simp only [List.length_drop, List.length_take]; rfl)) ?_; (with_reducible refine (arraslaw1_num.calls t434 t454 _ A14.out).mono ?_); rintro e w' ⟨rfl, ⟨nd, rfl⟩⟩; refine ⟨_, rfl, ?_⟩) | ((with_reducible refine gate_callee (f := 35) rfl ?_); refine goesL_ (some 76) rfl rfl Try.func35 (by kernel_rfl) rfl #[.int .i64 t436] rfl (by (try simp only [List.map_toArray, List.map_cons, List.map_nil]); first | done | rfl | (simp only [List.length_drop, List.length_take]; rfl)) ?_; (with_reducible refine (arraslaw1_num.calls t436 t455 _ A15.out).mono ?_); rintro e w' ⟨rfl, ⟨nd, rfl⟩⟩; refine ⟨_, rfl, ?_⟩) | ((with_reducible refine gate_callee (f := 35) rfl ?_); refine goesL_ (some 78) rfl rfl Try.func35 (by kernel_rfl) rfl #[.int .i64 t438] rfl (by (try simp only [List.map_toArray, List.map_cons, List.map_nil]); first | done | rfl | (simp only [List.length_drop, List.length_take]; rfl)) ?_; (with_reducible refine (arraslaw1_num.calls t438 t456 _ A16.out).mono ?_); rintro e w' ⟨rfl, ⟨nd, rfl⟩⟩; refine ⟨_, rfl, ?_⟩) | ((with_reducible refine gate_callee (f := 35) rfl ?_); refine goesL_ (some 80) rfl rfl Try.func35 (by kernel_rfl) rfl #[.int .i64 t440] rfl (by (try simp only [List.map_toArray, List.map_cons, List.map_nil]); first | done | rfl | (simp only [List.length_drop, List.length_take]; rfl)) ?_; (with_reducible refine (arraslaw1_num.calls t440 t457 _ A17.out).mono ?_); rintro e w' ⟨rfl, ⟨nd, rfl⟩⟩; refine ⟨_, rfl, ?_⟩) | ((with_reducible refine gate_callee (f := 35) rfl ?_); refine goesL_ (some 82) rfl rfl Try.func35 (by kernel_rfl) rfl #[.int .i64 t442] rfl (by (try simp only [List.map_toArray, List.map_cons, List.map_nil]); first | done | rfl | (simp only [List.length_drop, List.length_take]; rfl)) ?_; (with_reducible refine (arraslaw1_num.calls t442 t458 _ A18.out).mono ?_); rintro e w' ⟨rfl, ⟨nd, rfl⟩⟩; refine ⟨_, rfl, ?_⟩) | ((with_reducible refine gate_callee (f := 35) rfl ?_); refine goesL_ (some 84) rfl rfl Try.func35 (by kernel_rfl) rfl #[.int .i64 t444] rfl (by (try simp only [List.map_toArray, List.map_cons, List.map_nil]); first | done | rfl | (simp only [List.length_drop, List.length_take]; rfl)) ?_; (with_reducible refine (arraslaw1_num.calls t444 t459 _ A19.out).mono ?_); rintro e w' ⟨rfl, ⟨nd, rfl⟩⟩; refine ⟨_, rfl, ?_⟩) | ((with_reducible refine gate_callee (f := 35) rfl ?_); refine goesL_ (some 86) rfl rfl Try.func35 (by kernel_rfl) rfl #[.int .i64 t446] rfl (by (try simp only [List.map_toArray, List.map_cons, List.map_nil]); first | done | rfl | (simp only [List.length_drop, List.length_take]; rfl)) ?_; (with_reducible refine (arraslaw1_num.calls t446 t460 _ A20.out).mono ?_); rintro e w' ⟨rfl, ⟨nd, rfl⟩⟩; refine ⟨_, rfl, ?_⟩) | ((with_reducible refine gate_dst (N := 87) rfl ?_); (try (refine gate_guard (by rfl) ?_; dsimp only)); refine Kd.R_lit (Kd.int .i64) _ 3 ?hg (N := 87) ?hd (xs := ([t453, t454, t455, t456, t457, t458, t459, t460] : List Int)) (inner := [.int .i64 t453, .int .i64 t454, .int .i64 t455, .int .i64 t456, .int .i64 t457, .int .i64 t458, .int .i64 t459, .int .i64 t460]) (ok := fun _ => True) (okp := fun _ => True) ?hr ?hp (fun _ hk => hk) trivial (Below.refl _ _) (Nat.le_refl _) (by simp) ?_; (case hd => rfl); (case hg => rfl); (case hr => first | (go_simp; done) | (go_simp; rfl)); (case hp => exact (Reps.one (show Kd.M (Kd.int .i64) _ _ _ t453 [.int .i64 t453] from rfl) (Reps.one (show Kd.M (Kd.int .i64) _ _ _ t454 [.int .i64 t454] from rfl) (Reps.one (show Kd.M (Kd.int .i64) _ _ _ t455 [.int .i64 t455] from rfl) (Reps.one (show Kd.M (Kd.int .i64) _ _ _ t456 [.int .i64 t456] from rfl) (Reps.one (show Kd.M (Kd.int .i64) _ _ _ t457 [.int .i64 t457] from rfl) (Reps.one (show Kd.M (Kd.int .i64) _ _ _ t458 [.int .i64 t458] from rfl) (Reps.one (show Kd.M (Kd.int .i64) _ _ _ t459 [.int .i64 t459] from rfl) (Reps.one (show Kd.M (Kd.int .i64) _ _ _ t460 [.int .i64 t460] from rfl) (Reps.none _ _)))))))))); intro v462 w32 ho33 hb hg_ hnew_; clear hg_ hnew_; (first | rw [← Ny461.out] at ho33 | (simp only [Int.reduceToNat] at ho33; rw [← Ny461.out] at ho33)); have n0_ := Aside0.mk (Kd.R_lower ho33 (below_size (by repeat (first | (with_reducible first | exact HB.out | apply below_alloc | apply pw_below_drewN | apply below_drew1) | exact HB.out)))); have n1_ := Aside0.mk (below_step (by repeat (first | (with_reducible first | exact HB.out | apply below_alloc | apply pw_below_drewN | apply below_drew1) | exact HB.out)) hb); clear HB; have HO463 := n0_; have HB := n1_; clear n0_ n1_; clear hb ho33))
  go_loopg [26] k (fun kq v26 w' => ∃ (x26_1 : Int), v26 = .int .i64 x26_1 ∧ Aside0 (arraslaw1_FixedEnds.l0 kq l0 t431 t433 t435 t437 t439 t441 t443 t445 t448 t450 t452 y461 x26_1 = some r) ∧ Aside0 (kq ≤ k) ∧ Aside0 (Kd.R (Kd.int .i64) 3 w' w.heap.size (fun _ => True) v462 y461) ∧ Aside0 (Below w.heap.size w w'))
  case atStart => exact ⟨(0), (by first | rfl | (simp; done) | (simp [*]; done)), H', ⟨Nat.le_refl _⟩, ⟨by (with_reducible repeat (first | apply Kd.R_alloc | apply Kd.R_drewN | apply Kd.R_drew)); exact HO463.out⟩, ⟨by repeat (first | (with_reducible first | exact HB.out | apply below_alloc | apply pw_below_drewN | apply below_drew1) | exact HB.out)⟩⟩
  case round =>
    clear H'
    try clear c1
    try clear c2
    try clear p2
    try clear c3
    try clear c10
    try clear c25
    try clear c31
    try clear c33
    obtain ⟨x26_1, rfl, HA, HK1, HO_25, HB⟩ := hrel
    cases gk with
    | zero => exact absurd HA.out (by simp [arraslaw1_FixedEnds.l0])
    | succ k1 =>
      have H := HA.out
      clear HA
      simp only [arraslaw1_FixedEnds.l0] at H
      by_cases c34 : x26_1 < (y461.length : Int)
      · rw [if_pos c34] at H
        have c34b0 : decide (x26_1 < (y461.length : Int)) = true := decide_eq_true c34
        clear c34
        by_cases c35 : 0 ≤ x26_1
        · rw [if_pos c35] at H
          have c35b0 : decide (0 ≤ x26_1) = true := decide_eq_true c35
          clear c35
          by_cases c36 : (rd y461 x26_1) = 0
          · rw [if_pos c36] at H
            have c36b0 : ((rd y461 x26_1) == 0) = true := beq_iff_eq.mpr c36
            have c36b1 : ((rd y461 x26_1) != 0) = false := bne_eq_false_iff_eq.mpr c36
            clear c36
            have H' := Aside0.mk H
            clear H
            obtain ⟨Ao37, co37, eo37⟩ := Kd.R_slice HO_25.out
            subst eo37
            have p464 : 0 ≤ (x26_1 : Int) := of_decide_eq_true (by first | (with_reducible assumption) | assumption)
            have q464 : x26_1 < (y461.length : Int) := of_decide_eq_true (by first | (with_reducible assumption) | assumption)
            obtain ⟨ad464, e464, hx464_0⟩ := Kd.at_int (Kd.R_reads' HO_25.out).2.2 x26_1 p464 q464
            cases e464
            replace p464 := eq_true p464
            replace q464 := eq_true q464
            go_wp2
            go_roundg k1
            case measure => have := HK1.out; omega
            case rel => exact ⟨(wrap64 (x26_1 + 1)), (by first | rfl | (simp; done) | (simp [*]; done)), H', ⟨by have := HK1.out; omega⟩, ⟨by (with_reducible repeat (first | apply Kd.R_alloc | apply Kd.R_drewN | apply Kd.R_drew)); exact HO_25.out⟩, ⟨by repeat (first | (with_reducible first | exact HB.out | apply below_alloc | apply pw_below_drewN | apply below_drew1) | exact HB.out)⟩⟩
          · rw [if_neg c36] at H
            have c36b0 : ((rd y461 x26_1) == 0) = false := beq_eq_false_iff_ne.mpr c36
            have c36b1 : ((rd y461 x26_1) != 0) = true := bne_iff_ne.mpr c36
            obtain rfl := Option.some.inj H
            obtain ⟨Ao38, co38, eo38⟩ := Kd.R_slice HO_25.out
            subst eo38
            have p464 : 0 ≤ (x26_1 : Int) := of_decide_eq_true (by first | (with_reducible assumption) | assumption)
            have q464 : x26_1 < (y461.length : Int) := of_decide_eq_true (by first | (with_reducible assumption) | assumption)
            obtain ⟨ad464, e464, hx464_0⟩ := Kd.at_int (Kd.R_reads' HO_25.out).2.2 x26_1 p464 q464
            cases e464
            replace p464 := eq_true p464
            replace q464 := eq_true q464
            go_wp2
            go_ret
            exact ⟨by first | rfl | (simp [errW_none, errW_some] <;> rfl) | (simp [*, errW_none, errW_some] <;> rfl), by repeat (first | (with_reducible first | exact HB.out | apply below_alloc | apply pw_below_drewN | apply below_drew1) | exact HB.out)⟩
        · rw [if_neg c35] at H
          exact absurd H (by simp)
      · rw [if_neg c34] at H
        have c34b0 : decide (x26_1 < (y461.length : Int)) = false := decide_eq_false c34
        clear c34
        by_cases c39 : t431 = 1099511627776
        · rw [if_pos c39] at H
          have c39b0 : (t431 == 1099511627776) = true := beq_iff_eq.mpr c39
          have c39b1 : (t431 != 1099511627776) = false := bne_eq_false_iff_eq.mpr c39
          clear c39
          by_cases c40 : t433 = (-1099511627776)
          · rw [if_pos c40] at H
            have c40b0 : (t433 == (-1099511627776)) = true := beq_iff_eq.mpr c40
            have c40b1 : (t433 != (-1099511627776)) = false := bne_eq_false_iff_eq.mpr c40
            clear c40
            by_cases c41 : t435 = 1099511627776
            · rw [if_pos c41] at H
              have c41b0 : (t435 == 1099511627776) = true := beq_iff_eq.mpr c41
              have c41b1 : (t435 != 1099511627776) = false := bne_eq_false_iff_eq.mpr c41
              clear c41
              by_cases c42 : t437 = (-1099511627776)
              · rw [if_pos c42] at H
                have c42b0 : (t437 == (-1099511627776)) = true := beq_iff_eq.mpr c42
                have c42b1 : (t437 != (-1099511627776)) = false := bne_eq_false_iff_eq.mpr c42
                clear c42
                by_cases c43 : t439 = (-1)
                · rw [if_pos c43] at H
                  have c43b0 : (t439 == (-1)) = true := beq_iff_eq.mpr c43
                  have c43b1 : (t439 != (-1)) = false := bne_eq_false_iff_eq.mpr c43
                  clear c43
                  by_cases c44 : t441 = 1099511627776
                  · rw [if_pos c44] at H
                    have c44b0 : (t441 == 1099511627776) = true := beq_iff_eq.mpr c44
                    have c44b1 : (t441 != 1099511627776) = false := bne_eq_false_iff_eq.mpr c44
                    clear c44
                    by_cases c45 : t443 = 1099511627776
                    · rw [if_pos c45] at H
                      have c45b0 : (t443 == 1099511627776) = true := beq_iff_eq.mpr c45
                      have c45b1 : (t443 != 1099511627776) = false := bne_eq_false_iff_eq.mpr c45
                      clear c45
                      by_cases c46 : t445 = 9
                      · rw [if_pos c46] at H
                        have c46b0 : (t445 == 9) = true := beq_iff_eq.mpr c46
                        have c46b1 : (t445 != 9) = false := bne_eq_false_iff_eq.mpr c46
                        clear c46
                        replace H := Option.bind_eq_some_iff.mp H
                        obtain ⟨t465, A470, H⟩ := H
                        replace H : (if t465 = 1 then ((arraslaw1_num.f t450).bind fun t466 => (if t466 = 1 then ((arraslaw1_num.f t452).bind fun t467 => (if t467 = 1 then (if (l0.length : Int) ≥ 0 then ((arraslaw1_wakes.f k1).bind fun t468 => (some t468)) else (some false)) else (some false))) else (some false))) else (some false)) = some r := H
                        have A47 := Aside0.mk A470
                        clear A470
                        by_cases c48 : t465 = 1
                        · rw [if_pos c48] at H
                          have c48b0 : (t465 == 1) = true := beq_iff_eq.mpr c48
                          have c48b1 : (t465 != 1) = false := bne_eq_false_iff_eq.mpr c48
                          clear c48
                          replace H := Option.bind_eq_some_iff.mp H
                          obtain ⟨t466, A490, H⟩ := H
                          replace H : (if t466 = 1 then ((arraslaw1_num.f t452).bind fun t467 => (if t467 = 1 then (if (l0.length : Int) ≥ 0 then ((arraslaw1_wakes.f k1).bind fun t468 => (some t468)) else (some false)) else (some false))) else (some false)) = some r := H
                          have A49 := Aside0.mk A490
                          clear A490
                          by_cases c50 : t466 = 1
                          · rw [if_pos c50] at H
                            have c50b0 : (t466 == 1) = true := beq_iff_eq.mpr c50
                            have c50b1 : (t466 != 1) = false := bne_eq_false_iff_eq.mpr c50
                            clear c50
                            replace H := Option.bind_eq_some_iff.mp H
                            obtain ⟨t467, A510, H⟩ := H
                            replace H : (if t467 = 1 then (if (l0.length : Int) ≥ 0 then ((arraslaw1_wakes.f k1).bind fun t468 => (some t468)) else (some false)) else (some false)) = some r := H
                            have A51 := Aside0.mk A510
                            clear A510
                            by_cases c52 : t467 = 1
                            · rw [if_pos c52] at H
                              have c52b0 : (t467 == 1) = true := beq_iff_eq.mpr c52
                              have c52b1 : (t467 != 1) = false := bne_eq_false_iff_eq.mpr c52
                              clear c52
                              by_cases c53 : (l0.length : Int) ≥ 0
                              · rw [if_pos c53] at H
                                have c53b0 : decide (0 ≤ (l0.length : Int)) = true := decide_eq_true c53
                                have c53b1 : decide (0 ≤ l0.length) = true := decide_eq_true (by omega)
                                clear c53
                                replace H := Option.bind_eq_some_iff.mp H
                                obtain ⟨t468, A540, H⟩ := H
                                replace H : (some t468) = some r := H
                                have A54 := Aside0.mk A540
                                clear A540
                                obtain rfl := Option.some.inj H
                                obtain ⟨Ao55, co55, eo55⟩ := Kd.R_slice HO_25.out
                                subst eo55
                                go_wp2_with (first | (go_at_call 35; (with_reducible refine (arraslaw1_num.calls t448 t465 _ A47.out).mono ?_); rintro e w' ⟨rfl, ⟨nd, rfl⟩⟩) | (go_at_call 35; (with_reducible refine (arraslaw1_num.calls t450 t466 _ A49.out).mono ?_); rintro e w' ⟨rfl, ⟨nd, rfl⟩⟩) | (go_at_call 35; (with_reducible refine (arraslaw1_num.calls t452 t467 _ A51.out).mono ?_); rintro e w' ⟨rfl, ⟨nd, rfl⟩⟩) | (go_at_call 29; (with_reducible refine (arraslaw1_wakes.calls k1  t468 _ A54.out).mono ?_); rintro e w56 ⟨rfl, hb⟩; have n0_ := Aside0.mk (Kd.R_below (by (with_reducible repeat (first | apply Kd.R_alloc | apply Kd.R_drewN | apply Kd.R_drew)); exact HO_25.out) hb); have n1_ := Aside0.mk (below_step (by repeat (first | (with_reducible first | exact HB.out | apply below_alloc | apply pw_below_drewN | apply below_drew1) | exact HB.out)) hb); clear HO_25; clear HB; have HO_25 := n0_; have HB := n1_; clear n0_ n1_; (try clear hb); (try clear hb2); (try clear hk); (try clear hi)))
                                go_ret
                                exact ⟨by first | rfl | (simp [errW_none, errW_some] <;> rfl) | (simp [*, errW_none, errW_some] <;> rfl), by repeat (first | (with_reducible first | exact HB.out | apply below_alloc | apply pw_below_drewN | apply below_drew1) | exact HB.out)⟩
                              · exact absurd (by omega) c53
                            · rw [if_neg c52] at H
                              have c52b0 : (t467 == 1) = false := beq_eq_false_iff_ne.mpr c52
                              have c52b1 : (t467 != 1) = true := bne_iff_ne.mpr c52
                              obtain rfl := Option.some.inj H
                              obtain ⟨Ao58, co58, eo58⟩ := Kd.R_slice HO_25.out
                              subst eo58
                              go_wp2_with (first | (go_at_call 35; (with_reducible refine (arraslaw1_num.calls t448 t465 _ A47.out).mono ?_); rintro e w' ⟨rfl, ⟨nd, rfl⟩⟩) | (go_at_call 35; (with_reducible refine (arraslaw1_num.calls t450 t466 _ A49.out).mono ?_); rintro e w' ⟨rfl, ⟨nd, rfl⟩⟩) | (go_at_call 35; (with_reducible refine (arraslaw1_num.calls t452 t467 _ A51.out).mono ?_); rintro e w' ⟨rfl, ⟨nd, rfl⟩⟩))
                              go_ret
                              exact ⟨by first | rfl | (simp [errW_none, errW_some] <;> rfl) | (simp [*, errW_none, errW_some] <;> rfl), by repeat (first | (with_reducible first | exact HB.out | apply below_alloc | apply pw_below_drewN | apply below_drew1) | exact HB.out)⟩
                          · rw [if_neg c50] at H
                            have c50b0 : (t466 == 1) = false := beq_eq_false_iff_ne.mpr c50
                            have c50b1 : (t466 != 1) = true := bne_iff_ne.mpr c50
                            obtain rfl := Option.some.inj H
                            obtain ⟨Ao59, co59, eo59⟩ := Kd.R_slice HO_25.out
                            subst eo59
                            go_wp2_with (first | (go_at_call 35; (with_reducible refine (arraslaw1_num.calls t448 t465 _ A47.out).mono ?_); rintro e w' ⟨rfl, ⟨nd, rfl⟩⟩) | (go_at_call 35; (with_reducible refine (arraslaw1_num.calls t450 t466 _ A49.out).mono ?_); rintro e w' ⟨rfl, ⟨nd, rfl⟩⟩))
                            go_ret
                            exact ⟨by first | rfl | (simp [errW_none, errW_some] <;> rfl) | (simp [*, errW_none, errW_some] <;> rfl), by repeat (first | (with_reducible first | exact HB.out | apply below_alloc | apply pw_below_drewN | apply below_drew1) | exact HB.out)⟩
                        · rw [if_neg c48] at H
                          have c48b0 : (t465 == 1) = false := beq_eq_false_iff_ne.mpr c48
                          have c48b1 : (t465 != 1) = true := bne_iff_ne.mpr c48
                          obtain rfl := Option.some.inj H
                          obtain ⟨Ao60, co60, eo60⟩ := Kd.R_slice HO_25.out
                          subst eo60
                          go_wp2_with (first | (go_at_call 35; (with_reducible refine (arraslaw1_num.calls t448 t465 _ A47.out).mono ?_); rintro e w' ⟨rfl, ⟨nd, rfl⟩⟩))
                          go_ret
                          exact ⟨by first | rfl | (simp [errW_none, errW_some] <;> rfl) | (simp [*, errW_none, errW_some] <;> rfl), by repeat (first | (with_reducible first | exact HB.out | apply below_alloc | apply pw_below_drewN | apply below_drew1) | exact HB.out)⟩
                      · rw [if_neg c46] at H
                        have c46b0 : (t445 == 9) = false := beq_eq_false_iff_ne.mpr c46
                        have c46b1 : (t445 != 9) = true := bne_iff_ne.mpr c46
                        obtain rfl := Option.some.inj H
                        obtain ⟨Ao61, co61, eo61⟩ := Kd.R_slice HO_25.out
                        subst eo61
                        go_wp2
                        go_ret
                        exact ⟨by first | rfl | (simp [errW_none, errW_some] <;> rfl) | (simp [*, errW_none, errW_some] <;> rfl), by repeat (first | (with_reducible first | exact HB.out | apply below_alloc | apply pw_below_drewN | apply below_drew1) | exact HB.out)⟩
                    · rw [if_neg c45] at H
                      have c45b0 : (t443 == 1099511627776) = false := beq_eq_false_iff_ne.mpr c45
                      have c45b1 : (t443 != 1099511627776) = true := bne_iff_ne.mpr c45
                      obtain rfl := Option.some.inj H
                      obtain ⟨Ao62, co62, eo62⟩ := Kd.R_slice HO_25.out
                      subst eo62
                      go_wp2
                      go_ret
                      exact ⟨by first | rfl | (simp [errW_none, errW_some] <;> rfl) | (simp [*, errW_none, errW_some] <;> rfl), by repeat (first | (with_reducible first | exact HB.out | apply below_alloc | apply pw_below_drewN | apply below_drew1) | exact HB.out)⟩
                  · rw [if_neg c44] at H
                    have c44b0 : (t441 == 1099511627776) = false := beq_eq_false_iff_ne.mpr c44
                    have c44b1 : (t441 != 1099511627776) = true := bne_iff_ne.mpr c44
                    obtain rfl := Option.some.inj H
                    obtain ⟨Ao63, co63, eo63⟩ := Kd.R_slice HO_25.out
                    subst eo63
                    go_wp2
                    go_ret
                    exact ⟨by first | rfl | (simp [errW_none, errW_some] <;> rfl) | (simp [*, errW_none, errW_some] <;> rfl), by repeat (first | (with_reducible first | exact HB.out | apply below_alloc | apply pw_below_drewN | apply below_drew1) | exact HB.out)⟩
                · rw [if_neg c43] at H
                  have c43b0 : (t439 == (-1)) = false := beq_eq_false_iff_ne.mpr c43
                  have c43b1 : (t439 != (-1)) = true := bne_iff_ne.mpr c43
                  obtain rfl := Option.some.inj H
                  obtain ⟨Ao64, co64, eo64⟩ := Kd.R_slice HO_25.out
                  subst eo64
                  go_wp2
                  go_ret
                  exact ⟨by first | rfl | (simp [errW_none, errW_some] <;> rfl) | (simp [*, errW_none, errW_some] <;> rfl), by repeat (first | (with_reducible first | exact HB.out | apply below_alloc | apply pw_below_drewN | apply below_drew1) | exact HB.out)⟩
              · rw [if_neg c42] at H
                have c42b0 : (t437 == (-1099511627776)) = false := beq_eq_false_iff_ne.mpr c42
                have c42b1 : (t437 != (-1099511627776)) = true := bne_iff_ne.mpr c42
                obtain rfl := Option.some.inj H
                obtain ⟨Ao65, co65, eo65⟩ := Kd.R_slice HO_25.out
                subst eo65
                go_wp2
                go_ret
                exact ⟨by first | rfl | (simp [errW_none, errW_some] <;> rfl) | (simp [*, errW_none, errW_some] <;> rfl), by repeat (first | (with_reducible first | exact HB.out | apply below_alloc | apply pw_below_drewN | apply below_drew1) | exact HB.out)⟩
            · rw [if_neg c41] at H
              have c41b0 : (t435 == 1099511627776) = false := beq_eq_false_iff_ne.mpr c41
              have c41b1 : (t435 != 1099511627776) = true := bne_iff_ne.mpr c41
              obtain rfl := Option.some.inj H
              obtain ⟨Ao66, co66, eo66⟩ := Kd.R_slice HO_25.out
              subst eo66
              go_wp2
              go_ret
              exact ⟨by first | rfl | (simp [errW_none, errW_some] <;> rfl) | (simp [*, errW_none, errW_some] <;> rfl), by repeat (first | (with_reducible first | exact HB.out | apply below_alloc | apply pw_below_drewN | apply below_drew1) | exact HB.out)⟩
          · rw [if_neg c40] at H
            have c40b0 : (t433 == (-1099511627776)) = false := beq_eq_false_iff_ne.mpr c40
            have c40b1 : (t433 != (-1099511627776)) = true := bne_iff_ne.mpr c40
            obtain rfl := Option.some.inj H
            obtain ⟨Ao67, co67, eo67⟩ := Kd.R_slice HO_25.out
            subst eo67
            go_wp2
            go_ret
            exact ⟨by first | rfl | (simp [errW_none, errW_some] <;> rfl) | (simp [*, errW_none, errW_some] <;> rfl), by repeat (first | (with_reducible first | exact HB.out | apply below_alloc | apply pw_below_drewN | apply below_drew1) | exact HB.out)⟩
        · rw [if_neg c39] at H
          have c39b0 : (t431 == 1099511627776) = false := beq_eq_false_iff_ne.mpr c39
          have c39b1 : (t431 != 1099511627776) = true := bne_iff_ne.mpr c39
          obtain rfl := Option.some.inj H
          obtain ⟨Ao68, co68, eo68⟩ := Kd.R_slice HO_25.out
          subst eo68
          go_wp2
          go_ret
          exact ⟨by first | rfl | (simp [errW_none, errW_some] <;> rfl) | (simp [*, errW_none, errW_some] <;> rfl), by repeat (first | (with_reducible first | exact HB.out | apply below_alloc | apply pw_below_drewN | apply below_drew1) | exact HB.out)⟩

/-- THE ONE PURE STATEMENT of arraslaw1_FixedEnds: yours. -/
def arraslaw1_FixedEnds.Pure : Prop := ∀ (l0 : List Int), l0.length ≤ maxLen → l0.length * 8 ≤ 140737488351232 → (∀ x ∈ l0, (Lit.int .i64 x).wf = true) → ∃ k, arraslaw1_FixedEnds.f k l0 = some true
theorem arraslaw1_FixedEnds.walk (P : arraslaw1_FixedEnds.Pure) (a0 : Option Addr) (len0 cap0 : Nat) (z0 : List Int) (w : World) (w0 : (a0 = none ∧ len0 = 0 ∧ cap0 = 0 ∧ z0 = []) ∨ ∃ x, a0 = some x ∧ len0 ≤ cap0 ∧ cap0 ≤ maxLen ∧ z0.length = cap0 ∧ (∀ i, i < z0.length → w.cell? (x.add i) = some (.int .i64 (z0.getD i 0))) ∧ ∀ n ∈ z0, (Lit.int .i64 n).wf = true) (y0 : len0 * 8 ≤ 140737488351232) :
    Calls Try.prog 10 #[.slice a0 len0 cap0] w fun e w' => e = .returned (.bool true) ∧ Below w.heap.size w w' := by
  obtain ⟨l0, rfl, hr0, hm0, hw0, hc0⟩ := ReadsInt.ofRowC w0
  obtain ⟨k, h⟩ := P l0 hm0 y0 hw0
  refine (arraslaw1_FixedEnds.calls k _ _ l0 true w (Kd.C_of_reads (d := (0 : Int)) (h1 := fun _ => rfl) hr0) hc0 h).mono ?_
  rintro e w' ⟨rfl, hd⟩
  exact ⟨rfl, hd⟩

end Go.Proofs.Ytdilliddflnbnaa.PA
