-- Written by wprint.py, a program of this session's, over the kit's print.
import Derived.Test.YtdpeeinmckohgaaPCx0
import Derived.Test.YtdpeeinmckohgaaPCx2
import Derived.Test.YtdpeeinmckohgaaPCx5
import Derived.Test.YtdpeeinmckohgaaPCx12
namespace Go.Proofs.Ytdpeeinmckohgaa.PC
open Go.RowKit Go.Proofs.YtdpeeinmckohgaaW.PrintWords Go.Proofs.YtdpeeinmckohgaaW.PrintLast Go.Proofs.YtdpeeinmckohgaaW.PrintMore
attribute [local go_sem] max2_int min2_int max_two min_two max_three min_three max_four min_four fl_eql fl_neq fl_lss fl_leq fl_gtr fl_geq fl_add fl_of fl_int cx_mk cx_real cx_imag cx_eql cx_neq cx_add st_f64 st_c128   -- for this text's walks alone
set_option linter.unusedVariables false
set_option linter.unusedSimpArgs false

/-! ### arrasref1_Sub: function 42 -/
def arrasref1_Sub.f (a0 : Int) (a1 : Int) : Option (Int) := (arrasref1_Sat.f (wrap64 (a0 - a1))).bind fun t350 => (some t350)
set_option maxHeartbeats 8000000 in
set_option maxRecDepth 100000 in
theorem arrasref1_Sub.calls (a0 : Int) (a1 : Int) (r : Int) (w : World) (h : arrasref1_Sub.f a0 a1 = some r) :
    Calls Try.prog 42 #[.int .i64 a0, .int .i64 a1] w fun e w' => e = .returned (.int .i64 r) ∧ Below w.heap.size w w' := by
  have HB := Aside0.mk (Below.refl w.heap.size w)
  have H : ((arrasref1_Sat.f (wrap64 (a0 - a1))).bind fun t350 => (some t350)) = some r := h
  clear h
  replace H := Option.bind_eq_some_iff.mp H
  obtain ⟨t350, A30, H⟩ := H
  replace H : (some t350) = some r := H
  have A3 := Aside0.mk A30
  clear A30
  obtain rfl := Option.some.inj H
  go_enter Try.func42, Try.ntmps42
  go_wp2_with (first | ((with_reducible refine gate_callee (f := 46) rfl ?_); refine goesL_ (some 8) rfl rfl Try.func46 (by kernel_rfl) rfl #[.int .i64 (wrap64 (a0 - a1))] rfl (by (try simp only [List.map_toArray, List.map_cons, List.map_nil]); first | done | rfl | (simp only [List.length_drop, List.length_take]; rfl)) ?_; (with_reducible refine (arrasref1_Sat.calls (wrap64 (a0 - a1)) t350 _ A3.out).mono ?_); rintro e w4 ⟨rfl, hb⟩; refine ⟨_, rfl, ?_⟩; have n0_ := Aside0.mk (below_step (by repeat (first | (with_reducible first | exact HB.out | apply below_alloc | apply pw_below_drewN | apply below_drew1) | exact HB.out)) hb); clear HB; have HB := n0_; clear n0_; (try clear hb); (try clear hb2); (try clear hk); (try clear hi)))
  go_ret
  exact ⟨by first | rfl | (simp [errW_none, errW_some] <;> rfl) | (simp [*, errW_none, errW_some] <;> rfl), by repeat (first | (with_reducible first | exact HB.out | apply below_alloc | apply pw_below_drewN | apply below_drew1) | exact HB.out)⟩

/-! ### arrasref3_Sub: function 28 -/
def arrasref3_Sub.f (a0 : C128) (a1 : C128) : Option (C128) := (arrasref3_X.f a0).bind fun t351 => ((arrasref3_X.f a1).bind fun t352 => ((arrasref1_Sub.f t351 t352).bind fun t353 => ((arrasref3_Y.f a0).bind fun t354 => ((arrasref3_Y.f a1).bind fun t355 => ((arrasref1_Sub.f t354 t355).bind fun t356 => ((arrasref3_Of.f t353 t356).bind fun t357 => (some t357)))))))
set_option maxHeartbeats 8000000 in
set_option maxRecDepth 100000 in
theorem arrasref3_Sub.calls (a0 : C128) (a1 : C128) (r : C128) (w : World) (h : arrasref3_Sub.f a0 a1 = some r) :
  Calls Try.prog 28 #[.complex .f64 a0.1 a0.2, .complex .f64 a1.1 a1.2] w fun e w' => e = .returned (.complex .f64 r.1 r.2) ∧ Below w.heap.size w w' := by
 have HB := Aside0.mk (Below.refl w.heap.size w)
 have H : ((arrasref3_X.f a0).bind fun t351 => ((arrasref3_X.f a1).bind fun t352 => ((arrasref1_Sub.f t351 t352).bind fun t353 => ((arrasref3_Y.f a0).bind fun t354 => ((arrasref3_Y.f a1).bind fun t355 => ((arrasref1_Sub.f t354 t355).bind fun t356 => ((arrasref3_Of.f t353 t356).bind fun t357 => (some t357)))))))) = some r := h
 clear h
 replace H := Option.bind_eq_some_iff.mp H
 obtain ⟨t351, A30, H⟩ := H
 replace H : ((arrasref3_X.f a1).bind fun t352 => ((arrasref1_Sub.f t351 t352).bind fun t353 => ((arrasref3_Y.f a0).bind fun t354 => ((arrasref3_Y.f a1).bind fun t355 => ((arrasref1_Sub.f t354 t355).bind fun t356 => ((arrasref3_Of.f t353 t356).bind fun t357 => (some t357))))))) = some r := H
 have A3 := Aside0.mk A30; clear A30
 replace H := Option.bind_eq_some_iff.mp H
 obtain ⟨t352, A40, H⟩ := H
 replace H : ((arrasref1_Sub.f t351 t352).bind fun t353 => ((arrasref3_Y.f a0).bind fun t354 => ((arrasref3_Y.f a1).bind fun t355 => ((arrasref1_Sub.f t354 t355).bind fun t356 => ((arrasref3_Of.f t353 t356).bind fun t357 => (some t357)))))) = some r := H
 have A4 := Aside0.mk A40; clear A40
 replace H := Option.bind_eq_some_iff.mp H
 obtain ⟨t353, A50, H⟩ := H
 replace H : ((arrasref3_Y.f a0).bind fun t354 => ((arrasref3_Y.f a1).bind fun t355 => ((arrasref1_Sub.f t354 t355).bind fun t356 => ((arrasref3_Of.f t353 t356).bind fun t357 => (some t357))))) = some r := H
 have A5 := Aside0.mk A50; clear A50
 replace H := Option.bind_eq_some_iff.mp H
 obtain ⟨t354, A60, H⟩ := H
 replace H : ((arrasref3_Y.f a1).bind fun t355 => ((arrasref1_Sub.f t354 t355).bind fun t356 => ((arrasref3_Of.f t353 t356).bind fun t357 => (some t357)))) = some r := H
 have A6 := Aside0.mk A60; clear A60
 replace H := Option.bind_eq_some_iff.mp H
 obtain ⟨t355, A70, H⟩ := H
 replace H : ((arrasref1_Sub.f t354 t355).bind fun t356 => ((arrasref3_Of.f t353 t356).bind fun t357 => (some t357))) = some r := H
 have A7 := Aside0.mk A70; clear A70
 replace H := Option.bind_eq_some_iff.mp H
 obtain ⟨t356, A80, H⟩ := H
 replace H : ((arrasref3_Of.f t353 t356).bind fun t357 => (some t357)) = some r := H
 have A8 := Aside0.mk A80; clear A80
 replace H := Option.bind_eq_some_iff.mp H
 obtain ⟨t357, A90, H⟩ := H
 replace H : (some t357) = some r := H
 have A9 := Aside0.mk A90; clear A90
 obtain rfl := Option.some.inj H
 go_enter Try.func28, Try.ntmps28
 go_wp2_with (first | ((with_reducible refine gate_callee (f := 18) rfl ?_); refine goesL_ (some 6) rfl rfl Try.func18 (by kernel_rfl) rfl #[.complex .f64 a0.1 a0.2] rfl (by (try simp only [List.map_toArray, List.map_cons, List.map_nil]); first | done | rfl | (simp only [List.length_drop, List.length_take]; rfl)) ?_; (with_reducible refine (arrasref3_X.calls a0 t351 _ A3.out).mono ?_); rintro e w' ⟨rfl, ⟨nd, rfl⟩⟩; refine ⟨_, rfl, ?_⟩) | ((with_reducible refine gate_callee (f := 18) rfl ?_); refine goesL_ (some 8) rfl rfl Try.func18 (by kernel_rfl) rfl #[.complex .f64 a1.1 a1.2] rfl (by (try simp only [List.map_toArray, List.map_cons, List.map_nil]); first | done | rfl | (simp only [List.length_drop, List.length_take]; rfl)) ?_; (with_reducible refine (arrasref3_X.calls a1 t352 _ A4.out).mono ?_); rintro e w' ⟨rfl, ⟨nd, rfl⟩⟩; refine ⟨_, rfl, ?_⟩) | ((with_reducible refine gate_callee (f := 42) rfl ?_); refine goesL_ (some 9) rfl rfl Try.func42 (by kernel_rfl) rfl #[.int .i64 t351, .int .i64 t352] rfl (by (try simp only [List.map_toArray, List.map_cons, List.map_nil]); first | done | rfl | (simp only [List.length_drop, List.length_take]; rfl)) ?_; (with_reducible refine (arrasref1_Sub.calls t351 t352 t353 _ A5.out).mono ?_); rintro e w10 ⟨rfl, hb⟩; refine ⟨_, rfl, ?_⟩; have n0_ := Aside0.mk (below_step (by repeat (first | (with_reducible first | exact HB.out | apply below_alloc | apply pw_below_drewN | apply below_drew1) | exact HB.out)) hb); clear HB; have HB := n0_; clear n0_; (try clear hb); (try clear hb2); (try clear hk); (try clear hi)) | ((with_reducible refine gate_callee (f := 19) rfl ?_); refine goesL_ (some 11) rfl rfl Try.func19 (by kernel_rfl) rfl #[.complex .f64 a0.1 a0.2] rfl (by (try simp only [List.map_toArray, List.map_cons, List.map_nil]); first | done | rfl | (simp only [List.length_drop, List.length_take]; rfl)) ?_; (with_reducible refine (arrasref3_Y.calls a0 t354 _ A6.out).mono ?_); rintro e w' ⟨rfl, ⟨nd, rfl⟩⟩; refine ⟨_, rfl, ?_⟩) | ((with_reducible refine gate_callee (f := 19) rfl ?_); refine goesL_ (some 13) rfl rfl Try.func19 (by kernel_rfl) rfl #[.complex .f64 a1.1 a1.2] rfl (by (try simp only [List.map_toArray, List.map_cons, List.map_nil]); first | done | rfl | (simp only [List.length_drop, List.length_take]; rfl)) ?_; (with_reducible refine (arrasref3_Y.calls a1 t355 _ A7.out).mono ?_); rintro e w' ⟨rfl, ⟨nd, rfl⟩⟩; refine ⟨_, rfl, ?_⟩) | ((with_reducible refine gate_callee (f := 42) rfl ?_); refine goesL_ (some 14) rfl rfl Try.func42 (by kernel_rfl) rfl #[.int .i64 t354, .int .i64 t355] rfl (by (try simp only [List.map_toArray, List.map_cons, List.map_nil]); first | done | rfl | (simp only [List.length_drop, List.length_take]; rfl)) ?_; (with_reducible refine (arrasref1_Sub.calls t354 t355 t356 _ A8.out).mono ?_); rintro e w11 ⟨rfl, hb⟩; refine ⟨_, rfl, ?_⟩; have n0_ := Aside0.mk (below_step (by repeat (first | (with_reducible first | exact HB.out | apply below_alloc | apply pw_below_drewN | apply below_drew1) | exact HB.out)) hb); clear HB; have HB := n0_; clear n0_; (try clear hb); (try clear hb2); (try clear hk); (try clear hi)) | ((with_reducible refine gate_callee (f := 12) rfl ?_); refine goesL_ (some 15) rfl rfl Try.func12 (by kernel_rfl) rfl #[.int .i64 t353, .int .i64 t356] rfl (by (try simp only [List.map_toArray, List.map_cons, List.map_nil]); first | done | rfl | (simp only [List.length_drop, List.length_take]; rfl)) ?_; (with_reducible refine (arrasref3_Of.calls t353 t356 t357 _ A9.out).mono ?_); rintro e w' ⟨rfl, ⟨nd, rfl⟩⟩; refine ⟨_, rfl, ?_⟩))
 go_ret
 exact ⟨by first | rfl | (simp [errW_none, errW_some] <;> rfl) | (simp [*, errW_none, errW_some] <;> rfl), by repeat (first | (with_reducible first | exact HB.out | apply below_alloc | apply pw_below_drewN | apply below_drew1) | exact HB.out)⟩

end Go.Proofs.Ytdpeeinmckohgaa.PC
