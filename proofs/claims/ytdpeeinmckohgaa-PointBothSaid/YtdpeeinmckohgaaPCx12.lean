-- Written by wprint.py, a program of this session's, over the kit's print.
import Derived.Test.YtdpeeinmckohgaaPCx0
import Derived.Test.YtdpeeinmckohgaaPCx2
import Derived.Test.YtdpeeinmckohgaaPCx5
namespace Go.Proofs.Ytdpeeinmckohgaa.PC
open Go.RowKit Go.Proofs.YtdpeeinmckohgaaW.PrintWords Go.Proofs.YtdpeeinmckohgaaW.PrintLast Go.Proofs.YtdpeeinmckohgaaW.PrintMore
attribute [local go_sem] max2_int min2_int max_two min_two max_three min_three max_four min_four fl_eql fl_neq fl_lss fl_leq fl_gtr fl_geq fl_add fl_of fl_int cx_mk cx_real cx_imag cx_eql cx_neq cx_add st_f64 st_c128   -- for this text's walks alone
set_option linter.unusedVariables false
set_option linter.unusedSimpArgs false

/-! ### arrasref3_Box: function 24 -/
def arrasref3_Box.f (a0 : C128) (a1 : C128) : Option (Bool) := (arrasref3_Point.f a0).bind fun t265 => (if t265 = true then ((arrasref3_Point.f a1).bind fun t266 => (if t266 = true then ((arrasref3_X.f a1).bind fun t267 => (if t267 ≥ 0 then ((arrasref3_Y.f a1).bind fun t268 => (some (decide (t268 ≥ 0)))) else (some false))) else (some false))) else (some false))
set_option maxHeartbeats 8000000 in
set_option maxRecDepth 100000 in
theorem arrasref3_Box.calls (a0 : C128) (a1 : C128) (r : Bool) (w : World) (h : arrasref3_Box.f a0 a1 = some r) :
  Calls Try.prog 24 #[.complex .f64 a0.1 a0.2, .complex .f64 a1.1 a1.2] w fun e w' => e = .returned (.bool r) ∧ Drawn0 w w' := by
 have H : ((arrasref3_Point.f a0).bind fun t265 => (if t265 = true then ((arrasref3_Point.f a1).bind fun t266 => (if t266 = true then ((arrasref3_X.f a1).bind fun t267 => (if t267 ≥ 0 then ((arrasref3_Y.f a1).bind fun t268 => (some (decide (t268 ≥ 0)))) else (some false))) else (some false))) else (some false))) = some r := h
 clear h
 replace H := Option.bind_eq_some_iff.mp H
 obtain ⟨t265, A30, H⟩ := H
 replace H : (if t265 = true then ((arrasref3_Point.f a1).bind fun t266 => (if t266 = true then ((arrasref3_X.f a1).bind fun t267 => (if t267 ≥ 0 then ((arrasref3_Y.f a1).bind fun t268 => (some (decide (t268 ≥ 0)))) else (some false))) else (some false))) else (some false)) = some r := H
 have A3 := Aside0.mk A30; clear A30
 by_cases c4 : t265 = true
 ·subst c4
  have H1 : ((arrasref3_Point.f a1).bind fun t266 => (if t266 = true then ((arrasref3_X.f a1).bind fun t267 => (if t267 ≥ 0 then ((arrasref3_Y.f a1).bind fun t268 => (some (decide (t268 ≥ 0)))) else (some false))) else (some false))) = some r := by rw [if_pos rfl] at H; exact H
  clear H; have H := H1; clear H1
  replace H := Option.bind_eq_some_iff.mp H
  obtain ⟨t266, A50, H⟩ := H
  replace H : (if t266 = true then ((arrasref3_X.f a1).bind fun t267 => (if t267 ≥ 0 then ((arrasref3_Y.f a1).bind fun t268 => (some (decide (t268 ≥ 0)))) else (some false))) else (some false)) = some r := H
  have A5 := Aside0.mk A50; clear A50
  by_cases c6 : t266 = true
  ·subst c6
   have H1 : ((arrasref3_X.f a1).bind fun t267 => (if t267 ≥ 0 then ((arrasref3_Y.f a1).bind fun t268 => (some (decide (t268 ≥ 0)))) else (some false))) = some r := by rw [if_pos rfl] at H; exact H
   clear H; have H := H1; clear H1
   replace H := Option.bind_eq_some_iff.mp H
   obtain ⟨t267, A70, H⟩ := H
   replace H : (if t267 ≥ 0 then ((arrasref3_Y.f a1).bind fun t268 => (some (decide (t268 ≥ 0)))) else (some false)) = some r := H
   have A7 := Aside0.mk A70; clear A70
   by_cases c8 : t267 ≥ 0
   ·rw [if_pos c8] at H
    have c8b0 : decide (0 ≤ t267) = true := decide_eq_true c8
    clear c8
    replace H := Option.bind_eq_some_iff.mp H
    obtain ⟨t268, A90, H⟩ := H
    replace H : (some (decide (t268 ≥ 0))) = some r := H
    have A9 := Aside0.mk A90; clear A90
    obtain rfl := Option.some.inj H
    go_enter Try.func24, Try.ntmps24
    go_wp2_with (first | ((with_reducible refine gate_callee (f := 16) rfl ?_); refine goesL_ (some 6) rfl rfl Try.func16 (by kernel_rfl) rfl #[.complex .f64 a0.1 a0.2] rfl (by (try simp only [List.map_toArray, List.map_cons, List.map_nil]); first | done | rfl | (simp only [List.length_drop, List.length_take]; rfl)) ?_; (with_reducible refine (arrasref3_Point.calls a0 true _ A3.out).mono ?_); rintro e w' ⟨rfl, ⟨nd, rfl⟩⟩; refine ⟨_, rfl, ?_⟩) | (go_at_call 16; (with_reducible refine (arrasref3_Point.calls a1 true _ A5.out).mono ?_); rintro e w' ⟨rfl, ⟨nd, rfl⟩⟩) | (go_at_call 18; (with_reducible refine (arrasref3_X.calls a1 t267 _ A7.out).mono ?_); rintro e w' ⟨rfl, ⟨nd, rfl⟩⟩) | (go_at_call 19; (with_reducible refine (arrasref3_Y.calls a1 t268 _ A9.out).mono ?_); rintro e w' ⟨rfl, ⟨nd, rfl⟩⟩))
    go_ret
    exact ⟨by first | rfl | (simp; done) | (simp [*]; done), by repeat (first | exact Drawn0.refl _ | apply Drawn0.step)⟩
   ·rw [if_neg c8] at H
    have c8b0 : decide (0 ≤ t267) = false := decide_eq_false c8
    clear c8
    obtain rfl := Option.some.inj H
    go_enter Try.func24, Try.ntmps24
    go_wp2_with (first | ((with_reducible refine gate_callee (f := 16) rfl ?_); refine goesL_ (some 6) rfl rfl Try.func16 (by kernel_rfl) rfl #[.complex .f64 a0.1 a0.2] rfl (by (try simp only [List.map_toArray, List.map_cons, List.map_nil]); first | done | rfl | (simp only [List.length_drop, List.length_take]; rfl)) ?_; (with_reducible refine (arrasref3_Point.calls a0 true _ A3.out).mono ?_); rintro e w' ⟨rfl, ⟨nd, rfl⟩⟩; refine ⟨_, rfl, ?_⟩) | (go_at_call 16; (with_reducible refine (arrasref3_Point.calls a1 true _ A5.out).mono ?_); rintro e w' ⟨rfl, ⟨nd, rfl⟩⟩) | (go_at_call 18; (with_reducible refine (arrasref3_X.calls a1 t267 _ A7.out).mono ?_); rintro e w' ⟨rfl, ⟨nd, rfl⟩⟩))
    go_ret
    exact ⟨by first | rfl | (simp; done) | (simp [*]; done), by repeat (first | exact Drawn0.refl _ | apply Drawn0.step)⟩
  ·replace c6 := Bool.eq_false_iff.mpr c6
   subst c6
   have H1 : (some false) = some r := by rw [if_neg (show ¬ (false = true) by decide)] at H; exact H
   clear H; have H := H1; clear H1
   obtain rfl := Option.some.inj H
   go_enter Try.func24, Try.ntmps24
   go_wp2_with (first | ((with_reducible refine gate_callee (f := 16) rfl ?_); refine goesL_ (some 6) rfl rfl Try.func16 (by kernel_rfl) rfl #[.complex .f64 a0.1 a0.2] rfl (by (try simp only [List.map_toArray, List.map_cons, List.map_nil]); first | done | rfl | (simp only [List.length_drop, List.length_take]; rfl)) ?_; (with_reducible refine (arrasref3_Point.calls a0 true _ A3.out).mono ?_); rintro e w' ⟨rfl, ⟨nd, rfl⟩⟩; refine ⟨_, rfl, ?_⟩) | (go_at_call 16; (with_reducible refine (arrasref3_Point.calls a1 false _ A5.out).mono ?_); rintro e w' ⟨rfl, ⟨nd, rfl⟩⟩))
   go_ret
   exact ⟨by first | rfl | (simp; done) | (simp [*]; done), by repeat (first | exact Drawn0.refl _ | apply Drawn0.step)⟩
 ·replace c4 := Bool.eq_false_iff.mpr c4
  subst c4
  have H1 : (some false) = some r := by rw [if_neg (show ¬ (false = true) by decide)] at H; exact H
  clear H; have H := H1; clear H1
  obtain rfl := Option.some.inj H
  go_enter Try.func24, Try.ntmps24
  go_wp2_with (first | ((with_reducible refine gate_callee (f := 16) rfl ?_); refine goesL_ (some 6) rfl rfl Try.func16 (by kernel_rfl) rfl #[.complex .f64 a0.1 a0.2] rfl (by (try simp only [List.map_toArray, List.map_cons, List.map_nil]); first | done | rfl | (simp only [List.length_drop, List.length_take]; rfl)) ?_; (with_reducible refine (arrasref3_Point.calls a0 false _ A3.out).mono ?_); rintro e w' ⟨rfl, ⟨nd, rfl⟩⟩; refine ⟨_, rfl, ?_⟩))
  go_ret
  exact ⟨by first | rfl | (simp; done) | (simp [*]; done), by repeat (first | exact Drawn0.refl _ | apply Drawn0.step)⟩

/-! ### arrasref1_Sat: function 46 -/
def arrasref1_Sat.f (a0 : Int) : Option (Int) := some (mx (-1099511627776) (mn 1099511627776 a0))
set_option maxHeartbeats 8000000 in
set_option maxRecDepth 100000 in
theorem arrasref1_Sat.calls (a0 : Int) (r : Int) (w : World) (h : arrasref1_Sat.f a0 = some r) :
    Calls Try.prog 46 #[.int .i64 a0] w fun e w' => e = .returned (.int .i64 r) ∧ Below w.heap.size w w' := by
  have HB := Aside0.mk (Below.refl w.heap.size w)
  have H : (some (mx (-1099511627776) (mn 1099511627776 a0))) = some r := h
  clear h
  obtain ⟨ji2, hji2⟩ : ∃ j_ : Int, (mn 1099511627776 a0) = j_ := ⟨_, rfl⟩
  replace H : (some (mx (-1099511627776) (ji2))) = some r := by first | (rw [hji2] at H; exact H) | (simp only [hji2] at H ⊢; exact H)
  (try (have hji2h : ji2 ≤ 1099511627776 := by (rw [← hji2]; unfold mn; (repeat' split) <;> omega)))
  (try (have hji2g : ji2 ≤ 64 := by omega))
  have hji2_ : (if a0 < 1099511627776 then a0 else 1099511627776) = ji2 := hji2
  obtain ⟨ji3, hji3⟩ : ∃ j_ : Int, (mx (-1099511627776) (ji2)) = j_ := ⟨_, rfl⟩
  replace H : (some ji3) = some r := by first | (rw [hji3] at H; exact H) | (simp only [hji3] at H ⊢; exact H)
  have hji3_ : (if (-1099511627776) < (ji2) then (ji2) else (-1099511627776)) = ji3 := hji3
  obtain rfl := Option.some.inj H
  go_enter Try.func46, Try.ntmps46
  go_wp2
  go_ret
  exact ⟨by first | rfl | (simp [errW_none, errW_some] <;> rfl) | (simp only [← hji2, ← hji3]; first | rfl | (simp [errW_none, errW_some] <;> rfl)) | (simp [*, errW_none, errW_some] <;> rfl), by repeat (first | (with_reducible first | exact HB.out | apply below_alloc | apply pw_below_drewN | apply below_drew1) | exact HB.out)⟩

/-! ### arrasref1_Add: function 41 -/
def arrasref1_Add.f (a0 : Int) (a1 : Int) : Option (Int) := (arrasref1_Sat.f (wrap64 (a0 + a1))).bind fun t269 => (some t269)
set_option maxHeartbeats 8000000 in
set_option maxRecDepth 100000 in
theorem arrasref1_Add.calls (a0 : Int) (a1 : Int) (r : Int) (w : World) (h : arrasref1_Add.f a0 a1 = some r) :
    Calls Try.prog 41 #[.int .i64 a0, .int .i64 a1] w fun e w' => e = .returned (.int .i64 r) ∧ Below w.heap.size w w' := by
  have HB := Aside0.mk (Below.refl w.heap.size w)
  have H : ((arrasref1_Sat.f (wrap64 (a0 + a1))).bind fun t269 => (some t269)) = some r := h
  clear h
  replace H := Option.bind_eq_some_iff.mp H
  obtain ⟨t269, A30, H⟩ := H
  replace H : (some t269) = some r := H
  have A3 := Aside0.mk A30
  clear A30
  obtain rfl := Option.some.inj H
  go_enter Try.func41, Try.ntmps41
  go_wp2_with (first | ((with_reducible refine gate_callee (f := 46) rfl ?_); refine goesL_ (some 8) rfl rfl Try.func46 (by kernel_rfl) rfl #[.int .i64 (wrap64 (a0 + a1))] rfl (by (try simp only [List.map_toArray, List.map_cons, List.map_nil]); first | done | rfl | (simp only [List.length_drop, List.length_take]; rfl)) ?_; (with_reducible refine (arrasref1_Sat.calls (wrap64 (a0 + a1)) t269 _ A3.out).mono ?_); rintro e w4 ⟨rfl, hb⟩; refine ⟨_, rfl, ?_⟩; have n0_ := Aside0.mk (below_step (by repeat (first | (with_reducible first | exact HB.out | apply below_alloc | apply pw_below_drewN | apply below_drew1) | exact HB.out)) hb); clear HB; have HB := n0_; clear n0_; (try clear hb); (try clear hb2); (try clear hk); (try clear hi)))
  go_ret
  exact ⟨by first | rfl | (simp [errW_none, errW_some] <;> rfl) | (simp [*, errW_none, errW_some] <;> rfl), by repeat (first | (with_reducible first | exact HB.out | apply below_alloc | apply pw_below_drewN | apply below_drew1) | exact HB.out)⟩

/-! ### arrasref3_Add: function 27 -/
def arrasref3_Add.f (a0 : C128) (a1 : C128) : Option (C128) := (arrasref3_X.f a0).bind fun t270 => ((arrasref3_X.f a1).bind fun t271 => ((arrasref1_Add.f t270 t271).bind fun t272 => ((arrasref3_Y.f a0).bind fun t273 => ((arrasref3_Y.f a1).bind fun t274 => ((arrasref1_Add.f t273 t274).bind fun t275 => ((arrasref3_Of.f t272 t275).bind fun t276 => (some t276)))))))
set_option maxHeartbeats 8000000 in
set_option maxRecDepth 100000 in
theorem arrasref3_Add.calls (a0 : C128) (a1 : C128) (r : C128) (w : World) (h : arrasref3_Add.f a0 a1 = some r) :
  Calls Try.prog 27 #[.complex .f64 a0.1 a0.2, .complex .f64 a1.1 a1.2] w fun e w' => e = .returned (.complex .f64 r.1 r.2) ∧ Below w.heap.size w w' := by
 have HB := Aside0.mk (Below.refl w.heap.size w)
 have H : ((arrasref3_X.f a0).bind fun t270 => ((arrasref3_X.f a1).bind fun t271 => ((arrasref1_Add.f t270 t271).bind fun t272 => ((arrasref3_Y.f a0).bind fun t273 => ((arrasref3_Y.f a1).bind fun t274 => ((arrasref1_Add.f t273 t274).bind fun t275 => ((arrasref3_Of.f t272 t275).bind fun t276 => (some t276)))))))) = some r := h
 clear h
 replace H := Option.bind_eq_some_iff.mp H
 obtain ⟨t270, A30, H⟩ := H
 replace H : ((arrasref3_X.f a1).bind fun t271 => ((arrasref1_Add.f t270 t271).bind fun t272 => ((arrasref3_Y.f a0).bind fun t273 => ((arrasref3_Y.f a1).bind fun t274 => ((arrasref1_Add.f t273 t274).bind fun t275 => ((arrasref3_Of.f t272 t275).bind fun t276 => (some t276))))))) = some r := H
 have A3 := Aside0.mk A30; clear A30
 replace H := Option.bind_eq_some_iff.mp H
 obtain ⟨t271, A40, H⟩ := H
 replace H : ((arrasref1_Add.f t270 t271).bind fun t272 => ((arrasref3_Y.f a0).bind fun t273 => ((arrasref3_Y.f a1).bind fun t274 => ((arrasref1_Add.f t273 t274).bind fun t275 => ((arrasref3_Of.f t272 t275).bind fun t276 => (some t276)))))) = some r := H
 have A4 := Aside0.mk A40; clear A40
 replace H := Option.bind_eq_some_iff.mp H
 obtain ⟨t272, A50, H⟩ := H
 replace H : ((arrasref3_Y.f a0).bind fun t273 => ((arrasref3_Y.f a1).bind fun t274 => ((arrasref1_Add.f t273 t274).bind fun t275 => ((arrasref3_Of.f t272 t275).bind fun t276 => (some t276))))) = some r := H
 have A5 := Aside0.mk A50; clear A50
 replace H := Option.bind_eq_some_iff.mp H
 obtain ⟨t273, A60, H⟩ := H
 replace H : ((arrasref3_Y.f a1).bind fun t274 => ((arrasref1_Add.f t273 t274).bind fun t275 => ((arrasref3_Of.f t272 t275).bind fun t276 => (some t276)))) = some r := H
 have A6 := Aside0.mk A60; clear A60
 replace H := Option.bind_eq_some_iff.mp H
 obtain ⟨t274, A70, H⟩ := H
 replace H : ((arrasref1_Add.f t273 t274).bind fun t275 => ((arrasref3_Of.f t272 t275).bind fun t276 => (some t276))) = some r := H
 have A7 := Aside0.mk A70; clear A70
 replace H := Option.bind_eq_some_iff.mp H
 obtain ⟨t275, A80, H⟩ := H
 replace H : ((arrasref3_Of.f t272 t275).bind fun t276 => (some t276)) = some r := H
 have A8 := Aside0.mk A80; clear A80
 replace H := Option.bind_eq_some_iff.mp H
 obtain ⟨t276, A90, H⟩ := H
 replace H : (some t276) = some r := H
 have A9 := Aside0.mk A90; clear A90
 obtain rfl := Option.some.inj H
 go_enter Try.func27, Try.ntmps27
 go_wp2_with (first | ((with_reducible refine gate_callee (f := 18) rfl ?_); refine goesL_ (some 6) rfl rfl Try.func18 (by kernel_rfl) rfl #[.complex .f64 a0.1 a0.2] rfl (by (try simp only [List.map_toArray, List.map_cons, List.map_nil]); first | done | rfl | (simp only [List.length_drop, List.length_take]; rfl)) ?_; (with_reducible refine (arrasref3_X.calls a0 t270 _ A3.out).mono ?_); rintro e w' ⟨rfl, ⟨nd, rfl⟩⟩; refine ⟨_, rfl, ?_⟩) | ((with_reducible refine gate_callee (f := 18) rfl ?_); refine goesL_ (some 8) rfl rfl Try.func18 (by kernel_rfl) rfl #[.complex .f64 a1.1 a1.2] rfl (by (try simp only [List.map_toArray, List.map_cons, List.map_nil]); first | done | rfl | (simp only [List.length_drop, List.length_take]; rfl)) ?_; (with_reducible refine (arrasref3_X.calls a1 t271 _ A4.out).mono ?_); rintro e w' ⟨rfl, ⟨nd, rfl⟩⟩; refine ⟨_, rfl, ?_⟩) | ((with_reducible refine gate_callee (f := 41) rfl ?_); refine goesL_ (some 9) rfl rfl Try.func41 (by kernel_rfl) rfl #[.int .i64 t270, .int .i64 t271] rfl (by (try simp only [List.map_toArray, List.map_cons, List.map_nil]); first | done | rfl | (simp only [List.length_drop, List.length_take]; rfl)) ?_; (with_reducible refine (arrasref1_Add.calls t270 t271 t272 _ A5.out).mono ?_); rintro e w10 ⟨rfl, hb⟩; refine ⟨_, rfl, ?_⟩; have n0_ := Aside0.mk (below_step (by repeat (first | (with_reducible first | exact HB.out | apply below_alloc | apply pw_below_drewN | apply below_drew1) | exact HB.out)) hb); clear HB; have HB := n0_; clear n0_; (try clear hb); (try clear hb2); (try clear hk); (try clear hi)) | ((with_reducible refine gate_callee (f := 19) rfl ?_); refine goesL_ (some 11) rfl rfl Try.func19 (by kernel_rfl) rfl #[.complex .f64 a0.1 a0.2] rfl (by (try simp only [List.map_toArray, List.map_cons, List.map_nil]); first | done | rfl | (simp only [List.length_drop, List.length_take]; rfl)) ?_; (with_reducible refine (arrasref3_Y.calls a0 t273 _ A6.out).mono ?_); rintro e w' ⟨rfl, ⟨nd, rfl⟩⟩; refine ⟨_, rfl, ?_⟩) | ((with_reducible refine gate_callee (f := 19) rfl ?_); refine goesL_ (some 13) rfl rfl Try.func19 (by kernel_rfl) rfl #[.complex .f64 a1.1 a1.2] rfl (by (try simp only [List.map_toArray, List.map_cons, List.map_nil]); first | done | rfl | (simp only [List.length_drop, List.length_take]; rfl)) ?_; (with_reducible refine (arrasref3_Y.calls a1 t274 _ A7.out).mono ?_); rintro e w' ⟨rfl, ⟨nd, rfl⟩⟩; refine ⟨_, rfl, ?_⟩) | ((with_reducible refine gate_callee (f := 41) rfl ?_); refine goesL_ (some 14) rfl rfl Try.func41 (by kernel_rfl) rfl #[.int .i64 t273, .int .i64 t274] rfl (by (try simp only [List.map_toArray, List.map_cons, List.map_nil]); first | done | rfl | (simp only [List.length_drop, List.length_take]; rfl)) ?_; (with_reducible refine (arrasref1_Add.calls t273 t274 t275 _ A8.out).mono ?_); rintro e w11 ⟨rfl, hb⟩; refine ⟨_, rfl, ?_⟩; have n0_ := Aside0.mk (below_step (by repeat (first | (with_reducible first | exact HB.out | apply below_alloc | apply pw_below_drewN | apply below_drew1) | exact HB.out)) hb); clear HB; have HB := n0_; clear n0_; (try clear hb); (try clear hb2); (try clear hk); (try clear hi)) | ((with_reducible refine gate_callee (f := 12) rfl ?_); refine goesL_ (some 15) rfl rfl Try.func12 (by kernel_rfl) rfl #[.int .i64 t272, .int .i64 t275] rfl (by (try simp only [List.map_toArray, List.map_cons, List.map_nil]); first | done | rfl | (simp only [List.length_drop, List.length_take]; rfl)) ?_; (with_reducible refine (arrasref3_Of.calls t272 t275 t276 _ A9.out).mono ?_); rintro e w' ⟨rfl, ⟨nd, rfl⟩⟩; refine ⟨_, rfl, ?_⟩))
 go_ret
 exact ⟨by first | rfl | (simp [errW_none, errW_some] <;> rfl) | (simp [*, errW_none, errW_some] <;> rfl), by repeat (first | (with_reducible first | exact HB.out | apply below_alloc | apply pw_below_drewN | apply below_drew1) | exact HB.out)⟩

/-! ### arrasref3_Has: function 25 -/
def arrasref3_Has.f (a0 : C128) (a1 : C128) (a2 : C128) : Option (Bool) := (arrasref3_Add.f a0 a1).bind fun t277 => ((arrasref3_X.f a2).bind fun t278 => ((arrasref3_X.f a0).bind fun t279 => (if t278 ≥ t279 then ((arrasref3_Y.f a2).bind fun t280 => ((arrasref3_Y.f a0).bind fun t281 => (if t280 ≥ t281 then ((arrasref3_X.f a2).bind fun t282 => ((arrasref3_X.f t277).bind fun t283 => (if t282 < t283 then ((arrasref3_Y.f a2).bind fun t284 => ((arrasref3_Y.f t277).bind fun t285 => (some (decide (t284 < t285))))) else (some false)))) else (some false)))) else (some false))))
set_option maxHeartbeats 8000000 in
set_option maxRecDepth 100000 in
theorem arrasref3_Has.calls (a0 : C128) (a1 : C128) (a2 : C128) (r : Bool) (w : World) (h : arrasref3_Has.f a0 a1 a2 = some r) :
  Calls Try.prog 25 #[.complex .f64 a0.1 a0.2, .complex .f64 a1.1 a1.2, .complex .f64 a2.1 a2.2] w fun e w' => e = .returned (.bool r) ∧ Below w.heap.size w w' := by
 have HB := Aside0.mk (Below.refl w.heap.size w)
 have H : ((arrasref3_Add.f a0 a1).bind fun t277 => ((arrasref3_X.f a2).bind fun t278 => ((arrasref3_X.f a0).bind fun t279 => (if t278 ≥ t279 then ((arrasref3_Y.f a2).bind fun t280 => ((arrasref3_Y.f a0).bind fun t281 => (if t280 ≥ t281 then ((arrasref3_X.f a2).bind fun t282 => ((arrasref3_X.f t277).bind fun t283 => (if t282 < t283 then ((arrasref3_Y.f a2).bind fun t284 => ((arrasref3_Y.f t277).bind fun t285 => (some (decide (t284 < t285))))) else (some false)))) else (some false)))) else (some false))))) = some r := h
 clear h
 replace H := Option.bind_eq_some_iff.mp H
 obtain ⟨t277, A40, H⟩ := H
 replace H : ((arrasref3_X.f a2).bind fun t278 => ((arrasref3_X.f a0).bind fun t279 => (if t278 ≥ t279 then ((arrasref3_Y.f a2).bind fun t280 => ((arrasref3_Y.f a0).bind fun t281 => (if t280 ≥ t281 then ((arrasref3_X.f a2).bind fun t282 => ((arrasref3_X.f t277).bind fun t283 => (if t282 < t283 then ((arrasref3_Y.f a2).bind fun t284 => ((arrasref3_Y.f t277).bind fun t285 => (some (decide (t284 < t285))))) else (some false)))) else (some false)))) else (some false)))) = some r := H
 have A4 := Aside0.mk A40; clear A40
 replace H := Option.bind_eq_some_iff.mp H
 obtain ⟨t278, A50, H⟩ := H
 replace H : ((arrasref3_X.f a0).bind fun t279 => (if t278 ≥ t279 then ((arrasref3_Y.f a2).bind fun t280 => ((arrasref3_Y.f a0).bind fun t281 => (if t280 ≥ t281 then ((arrasref3_X.f a2).bind fun t282 => ((arrasref3_X.f t277).bind fun t283 => (if t282 < t283 then ((arrasref3_Y.f a2).bind fun t284 => ((arrasref3_Y.f t277).bind fun t285 => (some (decide (t284 < t285))))) else (some false)))) else (some false)))) else (some false))) = some r := H
 have A5 := Aside0.mk A50; clear A50
 replace H := Option.bind_eq_some_iff.mp H
 obtain ⟨t279, A60, H⟩ := H
 replace H : (if t278 ≥ t279 then ((arrasref3_Y.f a2).bind fun t280 => ((arrasref3_Y.f a0).bind fun t281 => (if t280 ≥ t281 then ((arrasref3_X.f a2).bind fun t282 => ((arrasref3_X.f t277).bind fun t283 => (if t282 < t283 then ((arrasref3_Y.f a2).bind fun t284 => ((arrasref3_Y.f t277).bind fun t285 => (some (decide (t284 < t285))))) else (some false)))) else (some false)))) else (some false)) = some r := H
 have A6 := Aside0.mk A60; clear A60
 by_cases c7 : t278 ≥ t279
 ·rw [if_pos c7] at H
  have c7b0 : decide (t279 ≤ t278) = true := decide_eq_true c7
  clear c7
  replace H := Option.bind_eq_some_iff.mp H
  obtain ⟨t280, A80, H⟩ := H
  replace H : ((arrasref3_Y.f a0).bind fun t281 => (if t280 ≥ t281 then ((arrasref3_X.f a2).bind fun t282 => ((arrasref3_X.f t277).bind fun t283 => (if t282 < t283 then ((arrasref3_Y.f a2).bind fun t284 => ((arrasref3_Y.f t277).bind fun t285 => (some (decide (t284 < t285))))) else (some false)))) else (some false))) = some r := H
  have A8 := Aside0.mk A80; clear A80
  replace H := Option.bind_eq_some_iff.mp H
  obtain ⟨t281, A90, H⟩ := H
  replace H : (if t280 ≥ t281 then ((arrasref3_X.f a2).bind fun t282 => ((arrasref3_X.f t277).bind fun t283 => (if t282 < t283 then ((arrasref3_Y.f a2).bind fun t284 => ((arrasref3_Y.f t277).bind fun t285 => (some (decide (t284 < t285))))) else (some false)))) else (some false)) = some r := H
  have A9 := Aside0.mk A90; clear A90
  by_cases c10 : t280 ≥ t281
  ·rw [if_pos c10] at H
   have c10b0 : decide (t281 ≤ t280) = true := decide_eq_true c10
   clear c10
   replace H := Option.bind_eq_some_iff.mp H
   obtain ⟨t282, A110, H⟩ := H
   replace H : ((arrasref3_X.f t277).bind fun t283 => (if t282 < t283 then ((arrasref3_Y.f a2).bind fun t284 => ((arrasref3_Y.f t277).bind fun t285 => (some (decide (t284 < t285))))) else (some false))) = some r := H
   have A11 := Aside0.mk A110; clear A110
   obtain rfl : t278 = t282 := Option.some.inj (A5.out.symm.trans A11.out)
   replace H := Option.bind_eq_some_iff.mp H
   obtain ⟨t283, A120, H⟩ := H
   replace H : (if t278 < t283 then ((arrasref3_Y.f a2).bind fun t284 => ((arrasref3_Y.f t277).bind fun t285 => (some (decide (t284 < t285))))) else (some false)) = some r := H
   have A12 := Aside0.mk A120; clear A120
   by_cases c13 : t278 < t283
   ·rw [if_pos c13] at H
    have c13b0 : decide (t278 < t283) = true := decide_eq_true c13
    clear c13
    replace H := Option.bind_eq_some_iff.mp H
    obtain ⟨t284, A140, H⟩ := H
    replace H : ((arrasref3_Y.f t277).bind fun t285 => (some (decide (t284 < t285)))) = some r := H
    have A14 := Aside0.mk A140; clear A140
    obtain rfl : t280 = t284 := Option.some.inj (A8.out.symm.trans A14.out)
    replace H := Option.bind_eq_some_iff.mp H
    obtain ⟨t285, A150, H⟩ := H
    replace H : (some (decide (t280 < t285))) = some r := H
    have A15 := Aside0.mk A150; clear A150
    obtain rfl := Option.some.inj H
    go_enter Try.func25, Try.ntmps25
    go_wp2_with (first | ((with_reducible refine gate_callee (f := 27) rfl ?_); refine goesL_ (some 10) rfl rfl Try.func27 (by kernel_rfl) rfl #[.complex .f64 a0.1 a0.2, .complex .f64 a1.1 a1.2] rfl (by (try simp only [List.map_toArray, List.map_cons, List.map_nil]); first | done | rfl | (simp only [List.length_drop, List.length_take]; rfl)) ?_; (with_reducible refine (arrasref3_Add.calls a0 a1 t277 _ A4.out).mono ?_); rintro e w16 ⟨rfl, hb⟩; refine ⟨_, rfl, ?_⟩; have n0_ := Aside0.mk (below_step (by repeat (first | (with_reducible first | exact HB.out | apply below_alloc | apply pw_below_drewN | apply below_drew1) | exact HB.out)) hb); clear HB; have HB := n0_; clear n0_; (try clear hb); (try clear hb2); (try clear hk); (try clear hi)) | ((with_reducible refine gate_callee (f := 18) rfl ?_); refine goesL_ (some 12) rfl rfl Try.func18 (by kernel_rfl) rfl #[.complex .f64 a2.1 a2.2] rfl (by (try simp only [List.map_toArray, List.map_cons, List.map_nil]); first | done | rfl | (simp only [List.length_drop, List.length_take]; rfl)) ?_; (with_reducible refine (arrasref3_X.calls a2 t278 _ A5.out).mono ?_); rintro e w' ⟨rfl, ⟨nd, rfl⟩⟩; refine ⟨_, rfl, ?_⟩) | ((with_reducible refine gate_callee (f := 18) rfl ?_); refine goesL_ (some 14) rfl rfl Try.func18 (by kernel_rfl) rfl #[.complex .f64 a0.1 a0.2] rfl (by (try simp only [List.map_toArray, List.map_cons, List.map_nil]); first | done | rfl | (simp only [List.length_drop, List.length_take]; rfl)) ?_; (with_reducible refine (arrasref3_X.calls a0 t279 _ A6.out).mono ?_); rintro e w' ⟨rfl, ⟨nd, rfl⟩⟩; refine ⟨_, rfl, ?_⟩) | (go_at_call 19; (with_reducible refine (arrasref3_Y.calls a2 t280 _ A8.out).mono ?_); rintro e w' ⟨rfl, ⟨nd, rfl⟩⟩) | (go_at_call 19; (with_reducible refine (arrasref3_Y.calls a0 t281 _ A9.out).mono ?_); rintro e w' ⟨rfl, ⟨nd, rfl⟩⟩) | (go_at_call 18; (with_reducible refine (arrasref3_X.calls a2 t278 _ A11.out).mono ?_); rintro e w' ⟨rfl, ⟨nd, rfl⟩⟩) | (go_at_call 18; (with_reducible refine (arrasref3_X.calls t277 t283 _ A12.out).mono ?_); rintro e w' ⟨rfl, ⟨nd, rfl⟩⟩) | (go_at_call 19; (with_reducible refine (arrasref3_Y.calls a2 t280 _ A14.out).mono ?_); rintro e w' ⟨rfl, ⟨nd, rfl⟩⟩) | (go_at_call 19; (with_reducible refine (arrasref3_Y.calls t277 t285 _ A15.out).mono ?_); rintro e w' ⟨rfl, ⟨nd, rfl⟩⟩))
    go_ret
    exact ⟨by first | rfl | (simp [errW_none, errW_some] <;> rfl) | (simp [*, errW_none, errW_some] <;> rfl), by repeat (first | (with_reducible first | exact HB.out | apply below_alloc | apply pw_below_drewN | apply below_drew1) | exact HB.out)⟩
   ·rw [if_neg c13] at H
    have c13b0 : decide (t278 < t283) = false := decide_eq_false c13
    clear c13
    obtain rfl := Option.some.inj H
    go_enter Try.func25, Try.ntmps25
    go_wp2_with (first | ((with_reducible refine gate_callee (f := 27) rfl ?_); refine goesL_ (some 10) rfl rfl Try.func27 (by kernel_rfl) rfl #[.complex .f64 a0.1 a0.2, .complex .f64 a1.1 a1.2] rfl (by (try simp only [List.map_toArray, List.map_cons, List.map_nil]); first | done | rfl | (simp only [List.length_drop, List.length_take]; rfl)) ?_; (with_reducible refine (arrasref3_Add.calls a0 a1 t277 _ A4.out).mono ?_); rintro e w17 ⟨rfl, hb⟩; refine ⟨_, rfl, ?_⟩; have n0_ := Aside0.mk (below_step (by repeat (first | (with_reducible first | exact HB.out | apply below_alloc | apply pw_below_drewN | apply below_drew1) | exact HB.out)) hb); clear HB; have HB := n0_; clear n0_; (try clear hb); (try clear hb2); (try clear hk); (try clear hi)) | ((with_reducible refine gate_callee (f := 18) rfl ?_); refine goesL_ (some 12) rfl rfl Try.func18 (by kernel_rfl) rfl #[.complex .f64 a2.1 a2.2] rfl (by (try simp only [List.map_toArray, List.map_cons, List.map_nil]); first | done | rfl | (simp only [List.length_drop, List.length_take]; rfl)) ?_; (with_reducible refine (arrasref3_X.calls a2 t278 _ A5.out).mono ?_); rintro e w' ⟨rfl, ⟨nd, rfl⟩⟩; refine ⟨_, rfl, ?_⟩) | ((with_reducible refine gate_callee (f := 18) rfl ?_); refine goesL_ (some 14) rfl rfl Try.func18 (by kernel_rfl) rfl #[.complex .f64 a0.1 a0.2] rfl (by (try simp only [List.map_toArray, List.map_cons, List.map_nil]); first | done | rfl | (simp only [List.length_drop, List.length_take]; rfl)) ?_; (with_reducible refine (arrasref3_X.calls a0 t279 _ A6.out).mono ?_); rintro e w' ⟨rfl, ⟨nd, rfl⟩⟩; refine ⟨_, rfl, ?_⟩) | (go_at_call 19; (with_reducible refine (arrasref3_Y.calls a2 t280 _ A8.out).mono ?_); rintro e w' ⟨rfl, ⟨nd, rfl⟩⟩) | (go_at_call 19; (with_reducible refine (arrasref3_Y.calls a0 t281 _ A9.out).mono ?_); rintro e w' ⟨rfl, ⟨nd, rfl⟩⟩) | (go_at_call 18; (with_reducible refine (arrasref3_X.calls a2 t278 _ A11.out).mono ?_); rintro e w' ⟨rfl, ⟨nd, rfl⟩⟩) | (go_at_call 18; (with_reducible refine (arrasref3_X.calls t277 t283 _ A12.out).mono ?_); rintro e w' ⟨rfl, ⟨nd, rfl⟩⟩))
    go_ret
    exact ⟨by first | rfl | (simp [errW_none, errW_some] <;> rfl) | (simp [*, errW_none, errW_some] <;> rfl), by repeat (first | (with_reducible first | exact HB.out | apply below_alloc | apply pw_below_drewN | apply below_drew1) | exact HB.out)⟩
  ·rw [if_neg c10] at H
   have c10b0 : decide (t281 ≤ t280) = false := decide_eq_false c10
   clear c10
   obtain rfl := Option.some.inj H
   go_enter Try.func25, Try.ntmps25
   go_wp2_with (first | ((with_reducible refine gate_callee (f := 27) rfl ?_); refine goesL_ (some 10) rfl rfl Try.func27 (by kernel_rfl) rfl #[.complex .f64 a0.1 a0.2, .complex .f64 a1.1 a1.2] rfl (by (try simp only [List.map_toArray, List.map_cons, List.map_nil]); first | done | rfl | (simp only [List.length_drop, List.length_take]; rfl)) ?_; (with_reducible refine (arrasref3_Add.calls a0 a1 t277 _ A4.out).mono ?_); rintro e w18 ⟨rfl, hb⟩; refine ⟨_, rfl, ?_⟩; have n0_ := Aside0.mk (below_step (by repeat (first | (with_reducible first | exact HB.out | apply below_alloc | apply pw_below_drewN | apply below_drew1) | exact HB.out)) hb); clear HB; have HB := n0_; clear n0_; (try clear hb); (try clear hb2); (try clear hk); (try clear hi)) | ((with_reducible refine gate_callee (f := 18) rfl ?_); refine goesL_ (some 12) rfl rfl Try.func18 (by kernel_rfl) rfl #[.complex .f64 a2.1 a2.2] rfl (by (try simp only [List.map_toArray, List.map_cons, List.map_nil]); first | done | rfl | (simp only [List.length_drop, List.length_take]; rfl)) ?_; (with_reducible refine (arrasref3_X.calls a2 t278 _ A5.out).mono ?_); rintro e w' ⟨rfl, ⟨nd, rfl⟩⟩; refine ⟨_, rfl, ?_⟩) | ((with_reducible refine gate_callee (f := 18) rfl ?_); refine goesL_ (some 14) rfl rfl Try.func18 (by kernel_rfl) rfl #[.complex .f64 a0.1 a0.2] rfl (by (try simp only [List.map_toArray, List.map_cons, List.map_nil]); first | done | rfl | (simp only [List.length_drop, List.length_take]; rfl)) ?_; (with_reducible refine (arrasref3_X.calls a0 t279 _ A6.out).mono ?_); rintro e w' ⟨rfl, ⟨nd, rfl⟩⟩; refine ⟨_, rfl, ?_⟩) | (go_at_call 19; (with_reducible refine (arrasref3_Y.calls a2 t280 _ A8.out).mono ?_); rintro e w' ⟨rfl, ⟨nd, rfl⟩⟩) | (go_at_call 19; (with_reducible refine (arrasref3_Y.calls a0 t281 _ A9.out).mono ?_); rintro e w' ⟨rfl, ⟨nd, rfl⟩⟩))
   go_ret
   exact ⟨by first | rfl | (simp [errW_none, errW_some] <;> rfl) | (simp [*, errW_none, errW_some] <;> rfl), by repeat (first | (with_reducible first | exact HB.out | apply below_alloc | apply pw_below_drewN | apply below_drew1) | exact HB.out)⟩
 ·rw [if_neg c7] at H
  have c7b0 : decide (t279 ≤ t278) = false := decide_eq_false c7
  clear c7
  obtain rfl := Option.some.inj H
  go_enter Try.func25, Try.ntmps25
  go_wp2_with (first | ((with_reducible refine gate_callee (f := 27) rfl ?_); refine goesL_ (some 10) rfl rfl Try.func27 (by kernel_rfl) rfl #[.complex .f64 a0.1 a0.2, .complex .f64 a1.1 a1.2] rfl (by (try simp only [List.map_toArray, List.map_cons, List.map_nil]); first | done | rfl | (simp only [List.length_drop, List.length_take]; rfl)) ?_; (with_reducible refine (arrasref3_Add.calls a0 a1 t277 _ A4.out).mono ?_); rintro e w19 ⟨rfl, hb⟩; refine ⟨_, rfl, ?_⟩; have n0_ := Aside0.mk (below_step (by repeat (first | (with_reducible first | exact HB.out | apply below_alloc | apply pw_below_drewN | apply below_drew1) | exact HB.out)) hb); clear HB; have HB := n0_; clear n0_; (try clear hb); (try clear hb2); (try clear hk); (try clear hi)) | ((with_reducible refine gate_callee (f := 18) rfl ?_); refine goesL_ (some 12) rfl rfl Try.func18 (by kernel_rfl) rfl #[.complex .f64 a2.1 a2.2] rfl (by (try simp only [List.map_toArray, List.map_cons, List.map_nil]); first | done | rfl | (simp only [List.length_drop, List.length_take]; rfl)) ?_; (with_reducible refine (arrasref3_X.calls a2 t278 _ A5.out).mono ?_); rintro e w' ⟨rfl, ⟨nd, rfl⟩⟩; refine ⟨_, rfl, ?_⟩) | ((with_reducible refine gate_callee (f := 18) rfl ?_); refine goesL_ (some 14) rfl rfl Try.func18 (by kernel_rfl) rfl #[.complex .f64 a0.1 a0.2] rfl (by (try simp only [List.map_toArray, List.map_cons, List.map_nil]); first | done | rfl | (simp only [List.length_drop, List.length_take]; rfl)) ?_; (with_reducible refine (arrasref3_X.calls a0 t279 _ A6.out).mono ?_); rintro e w' ⟨rfl, ⟨nd, rfl⟩⟩; refine ⟨_, rfl, ?_⟩))
  go_ret
  exact ⟨by first | rfl | (simp [errW_none, errW_some] <;> rfl) | (simp [*, errW_none, errW_some] <;> rfl), by repeat (first | (with_reducible first | exact HB.out | apply below_alloc | apply pw_below_drewN | apply below_drew1) | exact HB.out)⟩

end Go.Proofs.Ytdpeeinmckohgaa.PC
