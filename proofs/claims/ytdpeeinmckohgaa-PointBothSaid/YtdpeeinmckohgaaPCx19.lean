-- Written by wprint.py, a program of this session's, over the kit's print.
import Derived.Test.YtdpeeinmckohgaaPCx0
import Derived.Test.YtdpeeinmckohgaaPCx1
import Derived.Test.YtdpeeinmckohgaaPCx3
import Derived.Test.YtdpeeinmckohgaaPCx9
import Derived.Test.YtdpeeinmckohgaaPCx13
namespace Go.Proofs.Ytdpeeinmckohgaa.PC
open Go.RowKit Go.Proofs.YtdpeeinmckohgaaW.PrintWords Go.Proofs.YtdpeeinmckohgaaW.PrintLast Go.Proofs.YtdpeeinmckohgaaW.PrintMore
attribute [local go_sem] max2_int min2_int max_two min_two max_three min_three max_four min_four fl_eql fl_neq fl_lss fl_leq fl_gtr fl_geq fl_add fl_of fl_int cx_mk cx_real cx_imag cx_eql cx_neq cx_add st_f64 st_c128   -- for this text's walks alone
set_option linter.unusedVariables false
set_option linter.unusedSimpArgs false

/-! ### point_Meet: function 30 -/
mutual
def point_Meet.j0 : Nat → List Int → List Int → List Int → List Int → Bool → Option (C128 × C128 × Int)
  | 0, _, _, _, _, _ => none
  | k + 1, x11, x12, x14, x15, x43 => if x43 = true then (some (((0, 0) : C128), ((0, 0) : C128), 1)) else (if 0 < (x11.length : Int) then (if 2 < (x11.length : Int) then (if 0 < (x12.length : Int) then (if 2 < (x12.length : Int) then (if 0 < (x14.length : Int) then (if 1 < (x14.length : Int) then (if 0 < (x15.length : Int) then (if 1 < (x15.length : Int) then (if (mx (rd x11 0) (rd x11 2)) ≥ (mn (rd x14 0) (rd x14 1)) then (point_Meet.j1 k (mx (rd x11 0) (rd x11 2)) (mx (rd x12 0) (rd x12 2)) (mn (rd x14 0) (rd x14 1)) (mn (rd x15 0) (rd x15 1)) true) else (point_Meet.j1 k (mx (rd x11 0) (rd x11 2)) (mx (rd x12 0) (rd x12 2)) (mn (rd x14 0) (rd x14 1)) (mn (rd x15 0) (rd x15 1)) (decide ((mx (rd x12 0) (rd x12 2)) ≥ (mn (rd x15 0) (rd x15 1)))))) else (none)) else (none)) else (none)) else (none)) else (none)) else (none)) else (none)) else (none))
def point_Meet.j1 : Nat → Int → Int → Int → Int → Bool → Option (C128 × C128 × Int)
  | 0, _, _, _, _, _ => none
  | k + 1, x17, x18, x19, x20, x79 => if x79 = true then (some (((0, 0) : C128), ((0, 0) : C128), 0)) else ((point_Make.f x17 x18).bind fun t427 => ((fixed_Minus.f x19 x17).bind fun t428 => ((fixed_Minus.f x20 x18).bind fun t429 => ((point_Make.f t428 t429).bind fun t430 => (some (t427, t430, 0))))))
end
def point_Meet.f (k : Nat) (a0 : C128) (a1 : C128) (a2 : C128) (a3 : C128) : Option (C128 × C128 × Int) := (point_halves.f k (([a0, a1, a2, a3] : List C128))).bind fun bt405 => ((point_far.f k bt405.1 bt405.2.1).bind fun bt412 => (if bt405.2.2 = true then (point_Meet.j0 k bt405.1 bt405.2.1 bt412.1 bt412.2.1 (!bt412.2.2)) else (point_Meet.j0 k bt405.1 bt405.2.1 bt412.1 bt412.2.1 true)))
theorem point_Meet.mono_l : ∀ k, (∀ y0 y1 y2 y3 y4, LeO (point_Meet.j0 k y0 y1 y2 y3 y4) (point_Meet.j0 (k + 1) y0 y1 y2 y3 y4)) ∧ (∀ y0 y1 y2 y3 y4, LeO (point_Meet.j1 k y0 y1 y2 y3 y4) (point_Meet.j1 (k + 1) y0 y1 y2 y3 y4))
  | 0 => ⟨fun _ _ _ _ _ r h => by simp [point_Meet.j0] at h, fun _ _ _ _ _ r h => by simp [point_Meet.j1] at h⟩
  | k + 1 => by
    obtain ⟨ih0, ih1⟩ := point_Meet.mono_l k
    refine ⟨?_, ?_⟩
    · intro y0 y1 y2 y3 y4
      unfold point_Meet.j0
      repeat' first
      | (with_reducible exact ih0 _ _ _ _ _)
      | (with_reducible exact ih1 _ _ _ _ _)
      | (with_reducible exact point_far.mono _ _ _)
      | (with_reducible exact point_halves.mono _ _)
      | (with_reducible exact LeO.refl _)
      | (with_reducible exact LeO.none _)
      | (with_reducible refine LeO.ite ?_ ?_)
      | (with_reducible refine LeO.bind ?_ (fun _ => ?_))
      | exact ih0 _ _ _ _ _
      | exact ih1 _ _ _ _ _
      | exact point_far.mono _ _ _
      | exact point_halves.mono _ _
      | exact LeO.none _
      | refine LeO.ite ?_ ?_
      | refine LeO.bind ?_ (fun _ => ?_)
    · intro y0 y1 y2 y3 y4
      unfold point_Meet.j1
      repeat' first
      | (with_reducible exact ih0 _ _ _ _ _)
      | (with_reducible exact ih1 _ _ _ _ _)
      | (with_reducible exact point_far.mono _ _ _)
      | (with_reducible exact point_halves.mono _ _)
      | (with_reducible exact LeO.refl _)
      | (with_reducible exact LeO.none _)
      | (with_reducible refine LeO.ite ?_ ?_)
      | (with_reducible refine LeO.bind ?_ (fun _ => ?_))
      | exact ih0 _ _ _ _ _
      | exact ih1 _ _ _ _ _
      | exact point_far.mono _ _ _
      | exact point_halves.mono _ _
      | exact LeO.none _
      | refine LeO.ite ?_ ?_
      | refine LeO.bind ?_ (fun _ => ?_)
theorem point_Meet.mono : ∀ a0 a1 a2 a3 k, LeO (point_Meet.f k a0 a1 a2 a3) (point_Meet.f (k + 1) a0 a1 a2 a3) := by
  intro a0 a1 a2 a3 k
  obtain ⟨ih0, ih1⟩ := point_Meet.mono_l k
  unfold point_Meet.f
  repeat' first
      | (with_reducible exact ih0 _ _ _ _ _)
      | (with_reducible exact ih1 _ _ _ _ _)
      | (with_reducible exact point_far.mono _ _ _)
      | (with_reducible exact point_halves.mono _ _)
      | (with_reducible exact LeO.refl _)
      | (with_reducible exact LeO.none _)
      | (with_reducible refine LeO.ite ?_ ?_)
      | (with_reducible refine LeO.bind ?_ (fun _ => ?_))
      | exact ih0 _ _ _ _ _
      | exact ih1 _ _ _ _ _
      | exact point_far.mono _ _ _
      | exact point_halves.mono _ _
      | exact LeO.none _
      | refine LeO.ite ?_ ?_
      | refine LeO.bind ?_ (fun _ => ?_)
set_option maxHeartbeats 8000000 in
set_option maxRecDepth 100000 in
theorem point_Meet.calls (k : Nat) (a0 : C128) (a1 : C128) (a2 : C128) (a3 : C128) (r1 : C128) (r2 : C128) (r3 : Int) (w : World) (h : point_Meet.f k a0 a1 a2 a3 = some (r1, r2, r3)) :
  Calls Try.prog 30 #[.complex .f64 a0.1 a0.2, .complex .f64 a1.1 a1.2, .complex .f64 a2.1 a2.2, .complex .f64 a3.1 a3.2] w fun e w' => e = .returned (.tuple #[.complex .f64 r1.1 r1.2, .complex .f64 r2.1 r2.2, .int .i64 r3]) ∧ Below w.heap.size w w' := by
 have HB := Aside0.mk (Below.refl w.heap.size w)
 have H : ((point_halves.f k (([a0, a1, a2, a3] : List C128))).bind fun bt405 => ((point_far.f k bt405.1 bt405.2.1).bind fun bt412 => (if bt405.2.2 = true then (point_Meet.j0 k bt405.1 bt405.2.1 bt412.1 bt412.2.1 (!bt412.2.2)) else (point_Meet.j0 k bt405.1 bt405.2.1 bt412.1 bt412.2.1 true)))) = some (r1, r2, r3) := h
 clear h
 obtain ⟨y402, hy402⟩ : ∃ y_ : List C128, y_ = (([a0, a1, a2, a3] : List C128)) := ⟨_, rfl⟩
 replace H : ((point_halves.f k y402).bind fun bt405 => ((point_far.f k bt405.1 bt405.2.1).bind fun bt412 => (if bt405.2.2 = true then (point_Meet.j0 k bt405.1 bt405.2.1 bt412.1 bt412.2.1 (!bt412.2.2)) else (point_Meet.j0 k bt405.1 bt405.2.1 bt412.1 bt412.2.1 true)))) = some (r1, r2, r3) := by first | (rw [hy402]; with_reducible exact H) | (have H2_ := (Option.bind_some _ _).symm.trans H; rw [hy402]; with_reducible exact H2_) | (have H2_ := (Option.bind_some _ _).symm.trans H; with_reducible exact H2_) | with_reducible exact H | (rw [hy402]; exact H) | exact H
 have Ny402 := Aside0.mk hy402; clear hy402
 replace H := Option.bind_eq_some_iff.mp H
 obtain ⟨⟨t405, t406, t407⟩, A50, H⟩ := H
 replace H : ((point_far.f k t405 t406).bind fun bt412 => (if t407 = true then (point_Meet.j0 k t405 t406 bt412.1 bt412.2.1 (!bt412.2.2)) else (point_Meet.j0 k t405 t406 bt412.1 bt412.2.1 true))) = some (r1, r2, r3) := H
 have A5 := Aside0.mk A50; clear A50
 replace H := Option.bind_eq_some_iff.mp H
 obtain ⟨⟨t412, t413, t414⟩, A60, H⟩ := H
 replace H : (if t407 = true then (point_Meet.j0 k t405 t406 t412 t413 (!t414)) else (point_Meet.j0 k t405 t406 t412 t413 true)) = some (r1, r2, r3) := H
 have A6 := Aside0.mk A60; clear A60; have HC7 := Aside0.mk H; clear H
 go_enter Try.func30, Try.ntmps30
 go_upto_region 3 with (first | ((with_reducible refine gate_dst (N := 26) rfl ?_); refine Kd.R_lit Kd.c128 _ 28 ?hg (N := 26) ?hd (xs := ([a0, a1, a2, a3] : List C128)) (inner := [.complex .f64 a0.1 a0.2, .complex .f64 a1.1 a1.2, .complex .f64 a2.1 a2.2, .complex .f64 a3.1 a3.2]) (ok := fun _ => True) (okp := fun _ => True) ?hr ?hp (fun _ hk => hk) trivial (Below.refl _ _) (Nat.le_refl _) (by simp) ?_; (case hd => rfl); (case hg => rfl); (case hr => first | (go_simp; done) | (go_simp; rfl)); (case hp => exact (Reps.one (show Kd.M Kd.c128 _ _ _ a0 [.complex .f64 a0.1 a0.2] from rfl) (Reps.one (show Kd.M Kd.c128 _ _ _ a1 [.complex .f64 a1.1 a1.2] from rfl) (Reps.one (show Kd.M Kd.c128 _ _ _ a2 [.complex .f64 a2.1 a2.2] from rfl) (Reps.one (show Kd.M Kd.c128 _ _ _ a3 [.complex .f64 a3.1 a3.2] from rfl) (Reps.none _ _)))))); intro v403 w8 ho9 hb hg_ hnew_; clear hg_ hnew_; (first | rw [← Ny402.out] at ho9 | (simp only [Int.reduceToNat] at ho9; rw [← Ny402.out] at ho9)); have n0_ := Aside0.mk (Kd.R_lower ho9 (below_size (by repeat (first | (with_reducible first | exact HB.out | apply below_alloc | apply pw_below_drewN | apply below_drew1) | exact HB.out)))); have n1_ := Aside0.mk (below_step (by repeat (first | (with_reducible first | exact HB.out | apply below_alloc | apply pw_below_drewN | apply below_drew1) | exact HB.out)) hb); clear HB; have HO404 := n0_; have HB := n1_; clear n0_ n1_; clear hb ho9; obtain ⟨Ao10, co10, eo10⟩ := Kd.R_slice HO404.out; subst eo10) | (go_at_call 36; (with_reducible refine (point_halves.calls k _ _ y402 t405 t406 t407 _ ?side1 ?side2 A5.out).mono ?_); (case side1 => repeat (first | exact (Kd.R_reads' HO404.out).2.2 | (with_reducible refine Kd.C_alloc ?_ _) | (with_reducible refine Kd.C_drewN ?_ _) | (with_reducible refine Kd.C_drew ?_))); (case side2 => exact (Kd.R_reads' HO404.out).2.1); rintro e w11 ⟨v408, v410, rfl, ho0, ho1, hb⟩; have n0_ := Aside0.mk (Kd.R_below (by (with_reducible repeat (first | apply Kd.R_alloc | apply Kd.R_drewN | apply Kd.R_drew)); exact HO404.out) hb); have n1_ := Aside0.mk (Kd.R_lower ho0 (below_size (by repeat (first | (with_reducible first | exact HB.out | apply below_alloc | apply pw_below_drewN | apply below_drew1) | exact HB.out)))); have n2_ := Aside0.mk (Kd.R_lower ho1 (below_size (by repeat (first | (with_reducible first | exact HB.out | apply below_alloc | apply pw_below_drewN | apply below_drew1) | exact HB.out)))); have n3_ := Aside0.mk (below_step (by repeat (first | (with_reducible first | exact HB.out | apply below_alloc | apply pw_below_drewN | apply below_drew1) | exact HB.out)) hb); clear HO404; clear HB; have HO404 := n0_; have HO409 := n1_; have HO411 := n2_; have HB := n3_; clear n0_ n1_ n2_ n3_; (try clear hb); (try clear hb2); (try clear hk); (try clear hi); (try clear ho0); (try clear ho1); obtain ⟨Ao12, co12, eo12⟩ := Kd.R_slice HO409.out; subst eo12; obtain ⟨Ao13, co13, eo13⟩ := Kd.R_slice HO411.out; subst eo13) | (go_at_call 40; (with_reducible refine (point_far.calls k _ _ t405 _ _ t406 t412 t413 t414 _ ?side1 ?side2 ?side3 ?side4 A6.out).mono ?_); (case side1 => repeat (first | exact (Kd.R_reads' HO409.out).2.2 | (with_reducible refine Kd.C_alloc ?_ _) | (with_reducible refine Kd.C_drewN ?_ _) | (with_reducible refine Kd.C_drew ?_))); (case side2 => exact (Kd.R_reads' HO409.out).2.1); (case side3 => repeat (first | exact (Kd.R_reads' HO411.out).2.2 | (with_reducible refine Kd.C_alloc ?_ _) | (with_reducible refine Kd.C_drewN ?_ _) | (with_reducible refine Kd.C_drew ?_))); (case side4 => exact (Kd.R_reads' HO411.out).2.1); rintro e w14 ⟨v415, v417, rfl, ho0, ho1, hb⟩; have n0_ := Aside0.mk (Kd.R_below (by (with_reducible repeat (first | apply Kd.R_alloc | apply Kd.R_drewN | apply Kd.R_drew)); exact HO404.out) hb); have n1_ := Aside0.mk (Kd.R_mono (Kd.R_told (Kd.R_told (Kd.R_old (by (with_reducible repeat (first | apply Kd.R_alloc | apply Kd.R_drewN | apply Kd.R_drew)); exact HO409.out) hb) (Kd.R_base ho0)) (Kd.R_base ho1)) (fun _ h_ => h_.1)); have n2_ := Aside0.mk (Kd.R_mono (Kd.R_told (Kd.R_told (Kd.R_old (by (with_reducible repeat (first | apply Kd.R_alloc | apply Kd.R_drewN | apply Kd.R_drew)); exact HO411.out) hb) (Kd.R_base ho0)) (Kd.R_base ho1)) (fun _ h_ => h_.1)); have n3_ := Aside0.mk (Kd.R_lower (Kd.R_new' (Kd.R_new' ho0 (Kd.R_lt (by (with_reducible repeat (first | apply Kd.R_alloc | apply Kd.R_drewN | apply Kd.R_drew)); exact HO409.out))) (Kd.R_lt (by (with_reducible repeat (first | apply Kd.R_alloc | apply Kd.R_drewN | apply Kd.R_drew)); exact HO411.out))) (below_size (by repeat (first | (with_reducible first | exact HB.out | apply below_alloc | apply pw_below_drewN | apply below_drew1) | exact HB.out)))); have n4_ := Aside0.mk (Kd.R_lower (Kd.R_new' (Kd.R_new' ho1 (Kd.R_lt (by (with_reducible repeat (first | apply Kd.R_alloc | apply Kd.R_drewN | apply Kd.R_drew)); exact HO409.out))) (Kd.R_lt (by (with_reducible repeat (first | apply Kd.R_alloc | apply Kd.R_drewN | apply Kd.R_drew)); exact HO411.out))) (below_size (by repeat (first | (with_reducible first | exact HB.out | apply below_alloc | apply pw_below_drewN | apply below_drew1) | exact HB.out)))); have n5_ := Aside0.mk (below_step (by repeat (first | (with_reducible first | exact HB.out | apply below_alloc | apply pw_below_drewN | apply below_drew1) | exact HB.out)) hb); clear HO404; clear HO409; clear HO411; clear HB; have HO404 := n0_; have HO409 := n1_; have HO411 := n2_; have HO416 := n3_; have HO418 := n4_; have HB := n5_; clear n0_ n1_ n2_ n3_ n4_ n5_; (try clear hb); (try clear hb2); (try clear hk); (try clear hi); (try clear ho0); (try clear ho1)))
 repeat (go_quiet (first | ((with_reducible refine gate_dst (N := 26) rfl ?_); refine Kd.R_lit Kd.c128 _ 28 ?hg (N := 26) ?hd (xs := ([a0, a1, a2, a3] : List C128)) (inner := [.complex .f64 a0.1 a0.2, .complex .f64 a1.1 a1.2, .complex .f64 a2.1 a2.2, .complex .f64 a3.1 a3.2]) (ok := fun _ => True) (okp := fun _ => True) ?hr ?hp (fun _ hk => hk) trivial (Below.refl _ _) (Nat.le_refl _) (by simp) ?_; (case hd => rfl); (case hg => rfl); (case hr => first | (go_simp; done) | (go_simp; rfl)); (case hp => exact (Reps.one (show Kd.M Kd.c128 _ _ _ a0 [.complex .f64 a0.1 a0.2] from rfl) (Reps.one (show Kd.M Kd.c128 _ _ _ a1 [.complex .f64 a1.1 a1.2] from rfl) (Reps.one (show Kd.M Kd.c128 _ _ _ a2 [.complex .f64 a2.1 a2.2] from rfl) (Reps.one (show Kd.M Kd.c128 _ _ _ a3 [.complex .f64 a3.1 a3.2] from rfl) (Reps.none _ _)))))); intro v403 w8 ho9 hb hg_ hnew_; clear hg_ hnew_; (first | rw [← Ny402.out] at ho9 | (simp only [Int.reduceToNat] at ho9; rw [← Ny402.out] at ho9)); have n0_ := Aside0.mk (Kd.R_lower ho9 (below_size (by repeat (first | (with_reducible first | exact HB.out | apply below_alloc | apply pw_below_drewN | apply below_drew1) | exact HB.out)))); have n1_ := Aside0.mk (below_step (by repeat (first | (with_reducible first | exact HB.out | apply below_alloc | apply pw_below_drewN | apply below_drew1) | exact HB.out)) hb); clear HB; have HO404 := n0_; have HB := n1_; clear n0_ n1_; clear hb ho9; obtain ⟨Ao10, co10, eo10⟩ := Kd.R_slice HO404.out; subst eo10) | (go_at_call 36; (with_reducible refine (point_halves.calls k _ _ y402 t405 t406 t407 _ ?side1 ?side2 A5.out).mono ?_); (case side1 => repeat (first | exact (Kd.R_reads' HO404.out).2.2 | (with_reducible refine Kd.C_alloc ?_ _) | (with_reducible refine Kd.C_drewN ?_ _) | (with_reducible refine Kd.C_drew ?_))); (case side2 => exact (Kd.R_reads' HO404.out).2.1); rintro e w11 ⟨v408, v410, rfl, ho0, ho1, hb⟩; have n0_ := Aside0.mk (Kd.R_below (by (with_reducible repeat (first | apply Kd.R_alloc | apply Kd.R_drewN | apply Kd.R_drew)); exact HO404.out) hb); have n1_ := Aside0.mk (Kd.R_lower ho0 (below_size (by repeat (first | (with_reducible first | exact HB.out | apply below_alloc | apply pw_below_drewN | apply below_drew1) | exact HB.out)))); have n2_ := Aside0.mk (Kd.R_lower ho1 (below_size (by repeat (first | (with_reducible first | exact HB.out | apply below_alloc | apply pw_below_drewN | apply below_drew1) | exact HB.out)))); have n3_ := Aside0.mk (below_step (by repeat (first | (with_reducible first | exact HB.out | apply below_alloc | apply pw_below_drewN | apply below_drew1) | exact HB.out)) hb); clear HO404; clear HB; have HO404 := n0_; have HO409 := n1_; have HO411 := n2_; have HB := n3_; clear n0_ n1_ n2_ n3_; (try clear hb); (try clear hb2); (try clear hk); (try clear hi); (try clear ho0); (try clear ho1); obtain ⟨Ao12, co12, eo12⟩ := Kd.R_slice HO409.out; subst eo12; obtain ⟨Ao13, co13, eo13⟩ := Kd.R_slice HO411.out; subst eo13) | (go_at_call 40; (with_reducible refine (point_far.calls k _ _ t405 _ _ t406 t412 t413 t414 _ ?side1 ?side2 ?side3 ?side4 A6.out).mono ?_); (case side1 => repeat (first | exact (Kd.R_reads' HO409.out).2.2 | (with_reducible refine Kd.C_alloc ?_ _) | (with_reducible refine Kd.C_drewN ?_ _) | (with_reducible refine Kd.C_drew ?_))); (case side2 => exact (Kd.R_reads' HO409.out).2.1); (case side3 => repeat (first | exact (Kd.R_reads' HO411.out).2.2 | (with_reducible refine Kd.C_alloc ?_ _) | (with_reducible refine Kd.C_drewN ?_ _) | (with_reducible refine Kd.C_drew ?_))); (case side4 => exact (Kd.R_reads' HO411.out).2.1); rintro e w14 ⟨v415, v417, rfl, ho0, ho1, hb⟩; have n0_ := Aside0.mk (Kd.R_below (by (with_reducible repeat (first | apply Kd.R_alloc | apply Kd.R_drewN | apply Kd.R_drew)); exact HO404.out) hb); have n1_ := Aside0.mk (Kd.R_mono (Kd.R_told (Kd.R_told (Kd.R_old (by (with_reducible repeat (first | apply Kd.R_alloc | apply Kd.R_drewN | apply Kd.R_drew)); exact HO409.out) hb) (Kd.R_base ho0)) (Kd.R_base ho1)) (fun _ h_ => h_.1)); have n2_ := Aside0.mk (Kd.R_mono (Kd.R_told (Kd.R_told (Kd.R_old (by (with_reducible repeat (first | apply Kd.R_alloc | apply Kd.R_drewN | apply Kd.R_drew)); exact HO411.out) hb) (Kd.R_base ho0)) (Kd.R_base ho1)) (fun _ h_ => h_.1)); have n3_ := Aside0.mk (Kd.R_lower (Kd.R_new' (Kd.R_new' ho0 (Kd.R_lt (by (with_reducible repeat (first | apply Kd.R_alloc | apply Kd.R_drewN | apply Kd.R_drew)); exact HO409.out))) (Kd.R_lt (by (with_reducible repeat (first | apply Kd.R_alloc | apply Kd.R_drewN | apply Kd.R_drew)); exact HO411.out))) (below_size (by repeat (first | (with_reducible first | exact HB.out | apply below_alloc | apply pw_below_drewN | apply below_drew1) | exact HB.out)))); have n4_ := Aside0.mk (Kd.R_lower (Kd.R_new' (Kd.R_new' ho1 (Kd.R_lt (by (with_reducible repeat (first | apply Kd.R_alloc | apply Kd.R_drewN | apply Kd.R_drew)); exact HO409.out))) (Kd.R_lt (by (with_reducible repeat (first | apply Kd.R_alloc | apply Kd.R_drewN | apply Kd.R_drew)); exact HO411.out))) (below_size (by repeat (first | (with_reducible first | exact HB.out | apply below_alloc | apply pw_below_drewN | apply below_drew1) | exact HB.out)))); have n5_ := Aside0.mk (below_step (by repeat (first | (with_reducible first | exact HB.out | apply below_alloc | apply pw_below_drewN | apply below_drew1) | exact HB.out)) hb); clear HO404; clear HO409; clear HO411; clear HB; have HO404 := n0_; have HO409 := n1_; have HO411 := n2_; have HO416 := n3_; have HO418 := n4_; have HB := n5_; clear n0_ n1_ n2_ n3_ n4_ n5_; (try clear hb); (try clear hb2); (try clear hk); (try clear hi); (try clear ho0); (try clear ho1))); go_upto_region 3 with (first | ((with_reducible refine gate_dst (N := 26) rfl ?_); refine Kd.R_lit Kd.c128 _ 28 ?hg (N := 26) ?hd (xs := ([a0, a1, a2, a3] : List C128)) (inner := [.complex .f64 a0.1 a0.2, .complex .f64 a1.1 a1.2, .complex .f64 a2.1 a2.2, .complex .f64 a3.1 a3.2]) (ok := fun _ => True) (okp := fun _ => True) ?hr ?hp (fun _ hk => hk) trivial (Below.refl _ _) (Nat.le_refl _) (by simp) ?_; (case hd => rfl); (case hg => rfl); (case hr => first | (go_simp; done) | (go_simp; rfl)); (case hp => exact (Reps.one (show Kd.M Kd.c128 _ _ _ a0 [.complex .f64 a0.1 a0.2] from rfl) (Reps.one (show Kd.M Kd.c128 _ _ _ a1 [.complex .f64 a1.1 a1.2] from rfl) (Reps.one (show Kd.M Kd.c128 _ _ _ a2 [.complex .f64 a2.1 a2.2] from rfl) (Reps.one (show Kd.M Kd.c128 _ _ _ a3 [.complex .f64 a3.1 a3.2] from rfl) (Reps.none _ _)))))); intro v403 w8 ho9 hb hg_ hnew_; clear hg_ hnew_; (first | rw [← Ny402.out] at ho9 | (simp only [Int.reduceToNat] at ho9; rw [← Ny402.out] at ho9)); have n0_ := Aside0.mk (Kd.R_lower ho9 (below_size (by repeat (first | (with_reducible first | exact HB.out | apply below_alloc | apply pw_below_drewN | apply below_drew1) | exact HB.out)))); have n1_ := Aside0.mk (below_step (by repeat (first | (with_reducible first | exact HB.out | apply below_alloc | apply pw_below_drewN | apply below_drew1) | exact HB.out)) hb); clear HB; have HO404 := n0_; have HB := n1_; clear n0_ n1_; clear hb ho9; obtain ⟨Ao10, co10, eo10⟩ := Kd.R_slice HO404.out; subst eo10) | (go_at_call 36; (with_reducible refine (point_halves.calls k _ _ y402 t405 t406 t407 _ ?side1 ?side2 A5.out).mono ?_); (case side1 => repeat (first | exact (Kd.R_reads' HO404.out).2.2 | (with_reducible refine Kd.C_alloc ?_ _) | (with_reducible refine Kd.C_drewN ?_ _) | (with_reducible refine Kd.C_drew ?_))); (case side2 => exact (Kd.R_reads' HO404.out).2.1); rintro e w11 ⟨v408, v410, rfl, ho0, ho1, hb⟩; have n0_ := Aside0.mk (Kd.R_below (by (with_reducible repeat (first | apply Kd.R_alloc | apply Kd.R_drewN | apply Kd.R_drew)); exact HO404.out) hb); have n1_ := Aside0.mk (Kd.R_lower ho0 (below_size (by repeat (first | (with_reducible first | exact HB.out | apply below_alloc | apply pw_below_drewN | apply below_drew1) | exact HB.out)))); have n2_ := Aside0.mk (Kd.R_lower ho1 (below_size (by repeat (first | (with_reducible first | exact HB.out | apply below_alloc | apply pw_below_drewN | apply below_drew1) | exact HB.out)))); have n3_ := Aside0.mk (below_step (by repeat (first | (with_reducible first | exact HB.out | apply below_alloc | apply pw_below_drewN | apply below_drew1) | exact HB.out)) hb); clear HO404; clear HB; have HO404 := n0_; have HO409 := n1_; have HO411 := n2_; have HB := n3_; clear n0_ n1_ n2_ n3_; (try clear hb); (try clear hb2); (try clear hk); (try clear hi); (try clear ho0); (try clear ho1); obtain ⟨Ao12, co12, eo12⟩ := Kd.R_slice HO409.out; subst eo12; obtain ⟨Ao13, co13, eo13⟩ := Kd.R_slice HO411.out; subst eo13) | (go_at_call 40; (with_reducible refine (point_far.calls k _ _ t405 _ _ t406 t412 t413 t414 _ ?side1 ?side2 ?side3 ?side4 A6.out).mono ?_); (case side1 => repeat (first | exact (Kd.R_reads' HO409.out).2.2 | (with_reducible refine Kd.C_alloc ?_ _) | (with_reducible refine Kd.C_drewN ?_ _) | (with_reducible refine Kd.C_drew ?_))); (case side2 => exact (Kd.R_reads' HO409.out).2.1); (case side3 => repeat (first | exact (Kd.R_reads' HO411.out).2.2 | (with_reducible refine Kd.C_alloc ?_ _) | (with_reducible refine Kd.C_drewN ?_ _) | (with_reducible refine Kd.C_drew ?_))); (case side4 => exact (Kd.R_reads' HO411.out).2.1); rintro e w14 ⟨v415, v417, rfl, ho0, ho1, hb⟩; have n0_ := Aside0.mk (Kd.R_below (by (with_reducible repeat (first | apply Kd.R_alloc | apply Kd.R_drewN | apply Kd.R_drew)); exact HO404.out) hb); have n1_ := Aside0.mk (Kd.R_mono (Kd.R_told (Kd.R_told (Kd.R_old (by (with_reducible repeat (first | apply Kd.R_alloc | apply Kd.R_drewN | apply Kd.R_drew)); exact HO409.out) hb) (Kd.R_base ho0)) (Kd.R_base ho1)) (fun _ h_ => h_.1)); have n2_ := Aside0.mk (Kd.R_mono (Kd.R_told (Kd.R_told (Kd.R_old (by (with_reducible repeat (first | apply Kd.R_alloc | apply Kd.R_drewN | apply Kd.R_drew)); exact HO411.out) hb) (Kd.R_base ho0)) (Kd.R_base ho1)) (fun _ h_ => h_.1)); have n3_ := Aside0.mk (Kd.R_lower (Kd.R_new' (Kd.R_new' ho0 (Kd.R_lt (by (with_reducible repeat (first | apply Kd.R_alloc | apply Kd.R_drewN | apply Kd.R_drew)); exact HO409.out))) (Kd.R_lt (by (with_reducible repeat (first | apply Kd.R_alloc | apply Kd.R_drewN | apply Kd.R_drew)); exact HO411.out))) (below_size (by repeat (first | (with_reducible first | exact HB.out | apply below_alloc | apply pw_below_drewN | apply below_drew1) | exact HB.out)))); have n4_ := Aside0.mk (Kd.R_lower (Kd.R_new' (Kd.R_new' ho1 (Kd.R_lt (by (with_reducible repeat (first | apply Kd.R_alloc | apply Kd.R_drewN | apply Kd.R_drew)); exact HO409.out))) (Kd.R_lt (by (with_reducible repeat (first | apply Kd.R_alloc | apply Kd.R_drewN | apply Kd.R_drew)); exact HO411.out))) (below_size (by repeat (first | (with_reducible first | exact HB.out | apply below_alloc | apply pw_below_drewN | apply below_drew1) | exact HB.out)))); have n5_ := Aside0.mk (below_step (by repeat (first | (with_reducible first | exact HB.out | apply below_alloc | apply pw_below_drewN | apply below_drew1) | exact HB.out)) hb); clear HO404; clear HO409; clear HO411; clear HB; have HO404 := n0_; have HO409 := n1_; have HO411 := n2_; have HO416 := n3_; have HO418 := n4_; have HB := n5_; clear n0_ n1_ n2_ n3_ n4_ n5_; (try clear hb); (try clear hb2); (try clear hk); (try clear hi); (try clear ho0); (try clear ho1))))
 (try simp only [Act.put, List.setIfInBounds_toArray, List.set_cons_zero, List.set_cons_succ])
 go_cut [43] (fun v43 wc => ∃ (kq : Nat) (x43_6 : Bool), v43 = .bool x43_6 ∧ Aside0 (point_Meet.j0 kq t405 t406 t412 t413 x43_6 = some (r1, r2, r3)) ∧ Aside0 (kq ≤ k) ∧ Aside0 (Kd.R (Kd.int .i64) 3 wc w.heap.size (fun k_ => some k_ ≠ ((.slice Ao13 t406.length co13) : Value).ownBlock ∧ some k_ ≠ (v415 : Value).ownBlock ∧ some k_ ≠ (v417 : Value).ownBlock) (.slice Ao12 t405.length co12) t405) ∧ Aside0 (Kd.R (Kd.int .i64) 3 wc w.heap.size (fun k_ => some k_ ≠ ((.slice Ao12 t405.length co12) : Value).ownBlock ∧ some k_ ≠ (v415 : Value).ownBlock ∧ some k_ ≠ (v417 : Value).ownBlock) (.slice Ao13 t406.length co13) t406) ∧ Aside0 (Kd.R (Kd.int .i64) 3 wc w.heap.size (fun k_ => some k_ ≠ ((.slice Ao12 t405.length co12) : Value).ownBlock ∧ some k_ ≠ ((.slice Ao13 t406.length co13) : Value).ownBlock ∧ some k_ ≠ (v417 : Value).ownBlock) v415 t412) ∧ Aside0 (Kd.R (Kd.int .i64) 3 wc w.heap.size (fun k_ => some k_ ≠ ((.slice Ao12 t405.length co12) : Value).ownBlock ∧ some k_ ≠ ((.slice Ao13 t406.length co13) : Value).ownBlock ∧ some k_ ≠ (v415 : Value).ownBlock) v417 t413) ∧ Aside0 (Below w.heap.size w wc))
 case first =>
  have H := HC7.out
  clear HC7
  by_cases c15 : t407 = true
  ·subst c15
   have H1 : (point_Meet.j0 k t405 t406 t412 t413 (!t414)) = some (r1, r2, r3) := by rw [if_pos rfl] at H; exact H
   clear H; have H := H1; clear H1
   have H' := Aside0.mk H
   clear H
   go_wp2
   repeat (go_quiet (fail); try go_wp2)
   go_meet
   case rel => exact ⟨_, (!t414), (by first | rfl | (simp; done) | (simp [*]; done)), H', ⟨by first | omega | exact Nat.le_refl _⟩, ⟨by (with_reducible repeat (first | apply Kd.R_alloc | apply Kd.R_drewN | apply Kd.R_drew)); exact Kd.R_mono HO409.out (fun _ hk => ⟨hk.1.1, ⟨hk.1.2, hk.2⟩⟩)⟩, ⟨by (with_reducible repeat (first | apply Kd.R_alloc | apply Kd.R_drewN | apply Kd.R_drew)); exact Kd.R_mono HO411.out (fun _ hk => ⟨hk.1.1, ⟨hk.1.2, hk.2⟩⟩)⟩, ⟨by (with_reducible repeat (first | apply Kd.R_alloc | apply Kd.R_drewN | apply Kd.R_drew)); exact Kd.R_mono HO416.out (fun _ hk => ⟨hk.1.2, ⟨hk.2, hk.1.1⟩⟩)⟩, ⟨by (with_reducible repeat (first | apply Kd.R_alloc | apply Kd.R_drewN | apply Kd.R_drew)); exact Kd.R_mono HO418.out (fun _ hk => ⟨hk.1.2, ⟨hk.2, hk.1.1⟩⟩)⟩, ⟨by repeat (first | (with_reducible first | exact HB.out | apply below_alloc | apply pw_below_drewN | apply below_drew1) | exact HB.out)⟩⟩
  ·replace c15 := Bool.eq_false_iff.mpr c15
   subst c15
   have H1 : (point_Meet.j0 k t405 t406 t412 t413 true) = some (r1, r2, r3) := by rw [if_neg (show ¬ (false = true) by decide)] at H; exact H
   clear H; have H := H1; clear H1
   have H' := Aside0.mk H
   clear H
   go_wp2
   repeat (go_quiet (fail); try go_wp2)
   go_meet
   case rel => exact ⟨_, (true), (by first | rfl | (simp; done) | (simp [*]; done)), H', ⟨by first | omega | exact Nat.le_refl _⟩, ⟨by (with_reducible repeat (first | apply Kd.R_alloc | apply Kd.R_drewN | apply Kd.R_drew)); exact Kd.R_mono HO409.out (fun _ hk => ⟨hk.1.1, ⟨hk.1.2, hk.2⟩⟩)⟩, ⟨by (with_reducible repeat (first | apply Kd.R_alloc | apply Kd.R_drewN | apply Kd.R_drew)); exact Kd.R_mono HO411.out (fun _ hk => ⟨hk.1.1, ⟨hk.1.2, hk.2⟩⟩)⟩, ⟨by (with_reducible repeat (first | apply Kd.R_alloc | apply Kd.R_drewN | apply Kd.R_drew)); exact Kd.R_mono HO416.out (fun _ hk => ⟨hk.1.2, ⟨hk.2, hk.1.1⟩⟩)⟩, ⟨by (with_reducible repeat (first | apply Kd.R_alloc | apply Kd.R_drewN | apply Kd.R_drew)); exact Kd.R_mono HO418.out (fun _ hk => ⟨hk.1.2, ⟨hk.2, hk.1.1⟩⟩)⟩, ⟨by repeat (first | (with_reducible first | exact HB.out | apply below_alloc | apply pw_below_drewN | apply below_drew1) | exact HB.out)⟩⟩
 case rest =>
  clear HC7
  try clear c1
  try clear p2
  try clear c3
  try clear c12
  try clear c15
  obtain ⟨kq, x43_6, rfl, HA, HJ6, HO_11, HO_12, HO_14, HO_15, HB⟩ := hcut
  cases kq with
  | zero => exact absurd HA.out (by simp [point_Meet.j0])
  | succ kj6 =>
   have H := HA.out
   clear HA
   simp only [point_Meet.j0] at H
   by_cases c16 : x43_6 = true
   ·subst c16
    have H1 : (some (((0, 0) : C128), ((0, 0) : C128), 1)) = some (r1, r2, r3) := by rw [if_pos rfl] at H; exact H
    clear H; have H := H1; clear H1
    simp only [Option.some.injEq, Prod.mk.injEq] at H
    obtain ⟨rfl, rfl, rfl⟩ := H
    go_wp2
    repeat (go_quiet (fail); try go_wp2)
    go_ret3
    exact ⟨by first | rfl | (simp [errW_none, errW_some] <;> rfl) | (simp [*, errW_none, errW_some] <;> rfl), by repeat (first | (with_reducible first | exact HB.out | apply below_alloc | apply pw_below_drewN | apply below_drew1) | exact HB.out)⟩
   ·replace c16 := Bool.eq_false_iff.mpr c16
    subst c16
    have H1 : (if 0 < (t405.length : Int) then (if 2 < (t405.length : Int) then (if 0 < (t406.length : Int) then (if 2 < (t406.length : Int) then (if 0 < (t412.length : Int) then (if 1 < (t412.length : Int) then (if 0 < (t413.length : Int) then (if 1 < (t413.length : Int) then (if (mx (rd t405 0) (rd t405 2)) ≥ (mn (rd t412 0) (rd t412 1)) then (point_Meet.j1 kj6 (mx (rd t405 0) (rd t405 2)) (mx (rd t406 0) (rd t406 2)) (mn (rd t412 0) (rd t412 1)) (mn (rd t413 0) (rd t413 1)) true) else (point_Meet.j1 kj6 (mx (rd t405 0) (rd t405 2)) (mx (rd t406 0) (rd t406 2)) (mn (rd t412 0) (rd t412 1)) (mn (rd t413 0) (rd t413 1)) (decide ((mx (rd t406 0) (rd t406 2)) ≥ (mn (rd t413 0) (rd t413 1)))))) else (none)) else (none)) else (none)) else (none)) else (none)) else (none)) else (none)) else (none)) = some (r1, r2, r3) := by rw [if_neg (show ¬ (false = true) by decide)] at H; exact H
    clear H; have H := H1; clear H1
    by_cases c17 : 0 < (t405.length : Int)
    ·rw [if_pos c17] at H
     have c17b0 : decide (0 < (t405.length : Int)) = true := decide_eq_true c17
     have c17b1 : decide (0 < t405.length) = true := decide_eq_true (by omega)
     clear c17
     by_cases c18 : 2 < (t405.length : Int)
     ·rw [if_pos c18] at H
      have c18b0 : decide (2 < (t405.length : Int)) = true := decide_eq_true c18
      have c18b1 : decide (2 < t405.length) = true := decide_eq_true (by omega)
      clear c18
      obtain ⟨ji19, hji19⟩ : ∃ j_ : Int, (mx (rd t405 0) (rd t405 2)) = j_ := ⟨_, rfl⟩
      replace H : (if 0 < (t406.length : Int) then (if 2 < (t406.length : Int) then (if 0 < (t412.length : Int) then (if 1 < (t412.length : Int) then (if 0 < (t413.length : Int) then (if 1 < (t413.length : Int) then (if (ji19) ≥ (mn (rd t412 0) (rd t412 1)) then (point_Meet.j1 kj6 ji19 (mx (rd t406 0) (rd t406 2)) (mn (rd t412 0) (rd t412 1)) (mn (rd t413 0) (rd t413 1)) true) else (point_Meet.j1 kj6 ji19 (mx (rd t406 0) (rd t406 2)) (mn (rd t412 0) (rd t412 1)) (mn (rd t413 0) (rd t413 1)) (decide ((mx (rd t406 0) (rd t406 2)) ≥ (mn (rd t413 0) (rd t413 1)))))) else (none)) else (none)) else (none)) else (none)) else (none)) else (none)) = some (r1, r2, r3) := by first | (rw [hji19] at H; exact H) | (simp only [hji19] at H ⊢; exact H)
      have hji19_ : (if (rd t405 0) < (rd t405 2) then (rd t405 2) else (rd t405 0)) = ji19 := hji19
      by_cases c20 : 0 < (t406.length : Int)
      ·rw [if_pos c20] at H
       have c20b0 : decide (0 < (t406.length : Int)) = true := decide_eq_true c20
       have c20b1 : decide (0 < t406.length) = true := decide_eq_true (by omega)
       clear c20
       by_cases c21 : 2 < (t406.length : Int)
       ·rw [if_pos c21] at H
        have c21b0 : decide (2 < (t406.length : Int)) = true := decide_eq_true c21
        have c21b1 : decide (2 < t406.length) = true := decide_eq_true (by omega)
        clear c21
        obtain ⟨ji22, hji22⟩ : ∃ j_ : Int, (mx (rd t406 0) (rd t406 2)) = j_ := ⟨_, rfl⟩
        replace H : (if 0 < (t412.length : Int) then (if 1 < (t412.length : Int) then (if 0 < (t413.length : Int) then (if 1 < (t413.length : Int) then (if (ji19) ≥ (mn (rd t412 0) (rd t412 1)) then (point_Meet.j1 kj6 ji19 ji22 (mn (rd t412 0) (rd t412 1)) (mn (rd t413 0) (rd t413 1)) true) else (point_Meet.j1 kj6 ji19 ji22 (mn (rd t412 0) (rd t412 1)) (mn (rd t413 0) (rd t413 1)) (decide ((ji22) ≥ (mn (rd t413 0) (rd t413 1)))))) else (none)) else (none)) else (none)) else (none)) = some (r1, r2, r3) := by first | (rw [hji22] at H; exact H) | (simp only [hji22] at H ⊢; exact H)
        have hji22_ : (if (rd t406 0) < (rd t406 2) then (rd t406 2) else (rd t406 0)) = ji22 := hji22
        by_cases c23 : 0 < (t412.length : Int)
        ·rw [if_pos c23] at H
         have c23b0 : decide (0 < (t412.length : Int)) = true := decide_eq_true c23
         have c23b1 : decide (0 < t412.length) = true := decide_eq_true (by omega)
         clear c23
         by_cases c24 : 1 < (t412.length : Int)
         ·rw [if_pos c24] at H
          have c24b0 : decide (1 < (t412.length : Int)) = true := decide_eq_true c24
          have c24b1 : decide (1 < t412.length) = true := decide_eq_true (by omega)
          clear c24
          obtain ⟨ji25, hji25⟩ : ∃ j_ : Int, (mn (rd t412 0) (rd t412 1)) = j_ := ⟨_, rfl⟩
          replace H : (if 0 < (t413.length : Int) then (if 1 < (t413.length : Int) then (if (ji19) ≥ (ji25) then (point_Meet.j1 kj6 ji19 ji22 ji25 (mn (rd t413 0) (rd t413 1)) true) else (point_Meet.j1 kj6 ji19 ji22 ji25 (mn (rd t413 0) (rd t413 1)) (decide ((ji22) ≥ (mn (rd t413 0) (rd t413 1)))))) else (none)) else (none)) = some (r1, r2, r3) := by first | (rw [hji25] at H; exact H) | (simp only [hji25] at H ⊢; exact H)
          have hji25_ : (if (rd t412 1) < (rd t412 0) then (rd t412 1) else (rd t412 0)) = ji25 := hji25
          by_cases c26 : 0 < (t413.length : Int)
          ·rw [if_pos c26] at H
           have c26b0 : decide (0 < (t413.length : Int)) = true := decide_eq_true c26
           have c26b1 : decide (0 < t413.length) = true := decide_eq_true (by omega)
           clear c26
           by_cases c27 : 1 < (t413.length : Int)
           ·rw [if_pos c27] at H
            have c27b0 : decide (1 < (t413.length : Int)) = true := decide_eq_true c27
            have c27b1 : decide (1 < t413.length) = true := decide_eq_true (by omega)
            clear c27
            obtain ⟨ji28, hji28⟩ : ∃ j_ : Int, (mn (rd t413 0) (rd t413 1)) = j_ := ⟨_, rfl⟩
            replace H : (if (ji19) ≥ (ji25) then (point_Meet.j1 kj6 ji19 ji22 ji25 ji28 true) else (point_Meet.j1 kj6 ji19 ji22 ji25 ji28 (decide ((ji22) ≥ (ji28))))) = some (r1, r2, r3) := by first | (rw [hji28] at H; exact H) | (simp only [hji28] at H ⊢; exact H)
            have hji28_ : (if (rd t413 1) < (rd t413 0) then (rd t413 1) else (rd t413 0)) = ji28 := hji28
            have HC29 := Aside0.mk H; clear H; have p419 : 0 ≤ (0 : Int) := (by omega); have q419 : 0 < (t405.length : Int) := of_decide_eq_true (by first | (with_reducible assumption) | assumption); obtain ⟨ad419, e419, hx419_0⟩ := Kd.at_int (Kd.R_reads' HO_11.out).2.2 0 p419 q419; cases e419; have qi419 : (0 < t405.length) = True := eq_true (by omega); (try rw [show ((0 : Int)).toNat = 0 from rfl] at hx419_0); (try rw [Addr.add_zero'] at hx419_0); replace p419 := eq_true p419; replace q419 := eq_true q419; have p420 : 0 ≤ (2 : Int) := (by omega); have q420 : 2 < (t405.length : Int) := of_decide_eq_true (by first | (with_reducible assumption) | assumption); obtain ⟨ad420, e420, hx420_0⟩ := Kd.at_int (Kd.R_reads' HO_11.out).2.2 2 p420 q420; obtain rfl : ad419 = ad420 := (by injection e420); (try simp only [show (2 : Int).toNat = 2 from rfl, Nat.reduceMul, Nat.reduceEqDiff, Go.Addr.add, ↓reduceIte] at hx420_0); have qi420 : (2 < t405.length) = True := eq_true (by omega); (try rw [show ((2 : Int)).toNat = 2 from rfl] at hx420_0); replace p420 := eq_true p420; replace q420 := eq_true q420; have p421 : 0 ≤ (0 : Int) := (by omega); have q421 : 0 < (t406.length : Int) := of_decide_eq_true (by first | (with_reducible assumption) | assumption); obtain ⟨ad421, e421, hx421_0⟩ := Kd.at_int (Kd.R_reads' HO_12.out).2.2 0 p421 q421; cases e421; have qi421 : (0 < t406.length) = True := eq_true (by omega); (try rw [show ((0 : Int)).toNat = 0 from rfl] at hx421_0); (try rw [Addr.add_zero'] at hx421_0); replace p421 := eq_true p421; replace q421 := eq_true q421; have p422 : 0 ≤ (2 : Int) := (by omega); have q422 : 2 < (t406.length : Int) := of_decide_eq_true (by first | (with_reducible assumption) | assumption); obtain ⟨ad422, e422, hx422_0⟩ := Kd.at_int (Kd.R_reads' HO_12.out).2.2 2 p422 q422; obtain rfl : ad421 = ad422 := (by injection e422); (try simp only [show (2 : Int).toNat = 2 from rfl, Nat.reduceMul, Nat.reduceEqDiff, Go.Addr.add, ↓reduceIte] at hx422_0); have qi422 : (2 < t406.length) = True := eq_true (by omega); (try rw [show ((2 : Int)).toNat = 2 from rfl] at hx422_0); replace p422 := eq_true p422; replace q422 := eq_true q422
            obtain ⟨Ao30, co30, eo30⟩ := Kd.R_slice HO_14.out
            subst eo30
            have p423 : 0 ≤ (0 : Int) := (by omega); have q423 : 0 < (t412.length : Int) := of_decide_eq_true (by first | (with_reducible assumption) | assumption); obtain ⟨ad423, e423, hx423_0⟩ := Kd.at_int (Kd.R_reads' HO_14.out).2.2 0 p423 q423; cases e423; have qi423 : (0 < t412.length) = True := eq_true (by omega); (try rw [show ((0 : Int)).toNat = 0 from rfl] at hx423_0); (try rw [Addr.add_zero'] at hx423_0); replace p423 := eq_true p423; replace q423 := eq_true q423; have p424 : 0 ≤ (1 : Int) := (by omega); have q424 : 1 < (t412.length : Int) := of_decide_eq_true (by first | (with_reducible assumption) | assumption); obtain ⟨ad424, e424, hx424_0⟩ := Kd.at_int (Kd.R_reads' HO_14.out).2.2 1 p424 q424; obtain rfl : ad423 = ad424 := (by injection e424); (try simp only [show (1 : Int).toNat = 1 from rfl, Nat.reduceMul, Nat.reduceEqDiff, Go.Addr.add, ↓reduceIte] at hx424_0); have qi424 : (1 < t412.length) = True := eq_true (by omega); (try rw [show ((1 : Int)).toNat = 1 from rfl] at hx424_0); replace p424 := eq_true p424; replace q424 := eq_true q424
            obtain ⟨Ao31, co31, eo31⟩ := Kd.R_slice HO_15.out
            subst eo31
            have p425 : 0 ≤ (0 : Int) := (by omega); have q425 : 0 < (t413.length : Int) := of_decide_eq_true (by first | (with_reducible assumption) | assumption); obtain ⟨ad425, e425, hx425_0⟩ := Kd.at_int (Kd.R_reads' HO_15.out).2.2 0 p425 q425; cases e425; have qi425 : (0 < t413.length) = True := eq_true (by omega); (try rw [show ((0 : Int)).toNat = 0 from rfl] at hx425_0); (try rw [Addr.add_zero'] at hx425_0); replace p425 := eq_true p425; replace q425 := eq_true q425; have p426 : 0 ≤ (1 : Int) := (by omega); have q426 : 1 < (t413.length : Int) := of_decide_eq_true (by first | (with_reducible assumption) | assumption); obtain ⟨ad426, e426, hx426_0⟩ := Kd.at_int (Kd.R_reads' HO_15.out).2.2 1 p426 q426; obtain rfl : ad425 = ad426 := (by injection e426); (try simp only [show (1 : Int).toNat = 1 from rfl, Nat.reduceMul, Nat.reduceEqDiff, Go.Addr.add, ↓reduceIte] at hx426_0); have qi426 : (1 < t413.length) = True := eq_true (by omega); (try rw [show ((1 : Int)).toNat = 1 from rfl] at hx426_0); replace p426 := eq_true p426; replace q426 := eq_true q426
            go_upto_region 6 with (fail)
            repeat (go_quiet (fail); go_upto_region 6 with (fail))
            go_cut [79] (fun v79 wc => ∃ (kq : Nat) (x79_28 : Bool), v79 = .bool x79_28 ∧ Aside0 (point_Meet.j1 kq ji19 ji22 ji25 ji28 x79_28 = some (r1, r2, r3)) ∧ Aside0 (kq ≤ kj6) ∧ Aside0 (Below w.heap.size w wc))
            case first =>
             have H := HC29.out
             clear HC29
             by_cases c32 : (ji19) ≥ (ji25)
             ·rw [if_pos c32] at H
              have c32b0 : decide ((ji25) ≤ (ji19)) = true := decide_eq_true c32
              clear c32
              (first | rw [c32b0] | (simp only [i64_w, i32_w]; rw [c32b0]) | skip)
              have H' := Aside0.mk H
              clear H
              go_wp2
              repeat (go_quiet (fail); try go_wp2)
              go_meet
              case rel => exact ⟨_, (true), (by first | rfl | (simp; done) | (simp [*]; done)), H', ⟨by have := HJ6.out; first | omega | exact Nat.le_refl _⟩, ⟨by repeat (first | (with_reducible first | exact HB.out | apply below_alloc | apply pw_below_drewN | apply below_drew1) | exact HB.out)⟩⟩
             ·rw [if_neg c32] at H
              have c32b0 : decide ((ji25) ≤ (ji19)) = false := decide_eq_false c32
              clear c32
              (first | rw [c32b0] | (simp only [i64_w, i32_w]; rw [c32b0]) | skip)
              have H' := Aside0.mk H
              clear H
              go_wp2
              repeat (go_quiet (fail); try go_wp2)
              go_meet
              case rel => exact ⟨_, (decide ((ji22) ≥ (ji28))), (by first | rfl | (simp; done) | (simp only [← hji22, ← hji28] <;> (first | rfl | (rw [tdiv_mx]; done) | simp)) | (simp [*]; done)), H', ⟨by have := HJ6.out; first | omega | exact Nat.le_refl _⟩, ⟨by repeat (first | (with_reducible first | exact HB.out | apply below_alloc | apply pw_below_drewN | apply below_drew1) | exact HB.out)⟩⟩
            case rest =>
             clear HC29
             try clear c1
             try clear c2
             try clear p2
             try clear c3
             try clear p4
             try clear q4
             try clear hx4
             try clear qi4
             try clear c12
             try clear c15
             try clear c16
             try clear c17
             try clear c17b0
             try clear c17b1
             try clear c18
             try clear c18b0
             try clear c18b1
             try clear c20
             try clear c20b0
             try clear c20b1
             try clear c21
             try clear c21b0
             try clear c21b1
             try clear c23
             try clear c23b0
             try clear c23b1
             try clear c24
             try clear c24b0
             try clear c24b1
             try clear c26
             try clear c26b0
             try clear c26b1
             try clear c27
             try clear c27b0
             try clear c27b1
             try clear c30
             try clear c32
             try clear c32b0
             try clear hx419_0
             try clear hx420_0
             try clear hx421_0
             try clear hx422_0
             try clear hx423_0
             try clear hx424_0
             try clear hx425_0
             try clear hx426_0
             try clear p2
             try clear p419
             try clear p420
             try clear p421
             try clear p422
             try clear p423
             try clear p424
             try clear p425
             try clear p426
             try clear q419
             try clear q420
             try clear q421
             try clear q422
             try clear q423
             try clear q424
             try clear q425
             try clear q426
             obtain ⟨kq, x79_28, rfl, HA, HJ28, HB⟩ := hcut
             cases kq with
             | zero => exact absurd HA.out (by simp [point_Meet.j1])
             | succ kj28 =>
              have H := HA.out
              clear HA
              simp only [point_Meet.j1] at H
              by_cases c33 : x79_28 = true
              ·subst c33
               have H1 : (some (((0, 0) : C128), ((0, 0) : C128), 0)) = some (r1, r2, r3) := by rw [if_pos rfl] at H; exact H
               clear H; have H := H1; clear H1
               simp only [Option.some.injEq, Prod.mk.injEq] at H
               obtain ⟨rfl, rfl, rfl⟩ := H
               go_wp2
               repeat (go_quiet (fail); try go_wp2)
               go_ret3
               exact ⟨by first | rfl | (simp [errW_none, errW_some] <;> rfl) | (simp only [← hji19, ← hji22, ← hji25, ← hji28]; first | rfl | (simp [errW_none, errW_some] <;> rfl)) | (simp [*, errW_none, errW_some] <;> rfl), by repeat (first | (with_reducible first | exact HB.out | apply below_alloc | apply pw_below_drewN | apply below_drew1) | exact HB.out)⟩
              ·replace c33 := Bool.eq_false_iff.mpr c33
               subst c33
               have H1 : ((point_Make.f ji19 ji22).bind fun t427 => ((fixed_Minus.f ji25 ji19).bind fun t428 => ((fixed_Minus.f ji28 ji22).bind fun t429 => ((point_Make.f t428 t429).bind fun t430 => (some (t427, t430, 0)))))) = some (r1, r2, r3) := by rw [if_neg (show ¬ (false = true) by decide)] at H; exact H
               clear H; have H := H1; clear H1
               replace H := Option.bind_eq_some_iff.mp H
               obtain ⟨t427, A340, H⟩ := H
               replace H : ((fixed_Minus.f ji25 ji19).bind fun t428 => ((fixed_Minus.f ji28 ji22).bind fun t429 => ((point_Make.f t428 t429).bind fun t430 => (some (t427, t430, 0))))) = some (r1, r2, r3) := H
               have A34 := Aside0.mk A340; clear A340
               replace H := Option.bind_eq_some_iff.mp H
               obtain ⟨t428, A350, H⟩ := H
               replace H : ((fixed_Minus.f ji28 ji22).bind fun t429 => ((point_Make.f t428 t429).bind fun t430 => (some (t427, t430, 0)))) = some (r1, r2, r3) := H
               have A35 := Aside0.mk A350; clear A350
               replace H := Option.bind_eq_some_iff.mp H
               obtain ⟨t429, A360, H⟩ := H
               replace H : ((point_Make.f t428 t429).bind fun t430 => (some (t427, t430, 0))) = some (r1, r2, r3) := H
               have A36 := Aside0.mk A360; clear A360
               replace H := Option.bind_eq_some_iff.mp H
               obtain ⟨t430, A370, H⟩ := H
               replace H : (some (t427, t430, 0)) = some (r1, r2, r3) := H
               have A37 := Aside0.mk A370; clear A370
               simp only [Option.some.injEq, Prod.mk.injEq] at H
               obtain ⟨rfl, rfl, rfl⟩ := H
               go_wp2_with (first | (go_at_call 35; (with_reducible refine (point_Make.calls ji19 ji22 t427 _ A34.out).mono ?_); rintro e w' ⟨rfl, ⟨nd, rfl⟩⟩; (try first | exact ⟨rfl, _, World.drewN_drewN _ _ _⟩ | exact ⟨rfl, _, Eq.trans (World.drewN_drewN _ _ _) (congrArg (World.drewN _) (Nat.add_assoc _ _ _))⟩)) | (go_at_call 39; (with_reducible refine (fixed_Minus.calls ji25 ji19 t428 _ A35.out).mono ?_); rintro e w38 ⟨rfl, hb⟩; have n0_ := Aside0.mk (below_step (by repeat (first | (with_reducible first | exact HB.out | apply below_alloc | apply pw_below_drewN | apply below_drew1) | exact HB.out)) hb); clear HB; have HB := n0_; clear n0_; (try clear hb); (try clear hb2); (try clear hk); (try clear hi)) | (go_at_call 39; (with_reducible refine (fixed_Minus.calls ji28 ji22 t429 _ A36.out).mono ?_); rintro e w39 ⟨rfl, hb⟩; have n0_ := Aside0.mk (below_step (by repeat (first | (with_reducible first | exact HB.out | apply below_alloc | apply pw_below_drewN | apply below_drew1) | exact HB.out)) hb); clear HB; have HB := n0_; clear n0_; (try clear hb); (try clear hb2); (try clear hk); (try clear hi)) | (go_at_call 35; (with_reducible refine (point_Make.calls t428 t429 t430 _ A37.out).mono ?_); rintro e w' ⟨rfl, ⟨nd, rfl⟩⟩; (try first | exact ⟨rfl, _, World.drewN_drewN _ _ _⟩ | exact ⟨rfl, _, Eq.trans (World.drewN_drewN _ _ _) (congrArg (World.drewN _) (Nat.add_assoc _ _ _))⟩)))
               repeat (go_quiet (first | (go_at_call 35; (with_reducible refine (point_Make.calls ji19 ji22 t427 _ A34.out).mono ?_); rintro e w' ⟨rfl, ⟨nd, rfl⟩⟩; (try first | exact ⟨rfl, _, World.drewN_drewN _ _ _⟩ | exact ⟨rfl, _, Eq.trans (World.drewN_drewN _ _ _) (congrArg (World.drewN _) (Nat.add_assoc _ _ _))⟩)) | (go_at_call 39; (with_reducible refine (fixed_Minus.calls ji25 ji19 t428 _ A35.out).mono ?_); rintro e w38 ⟨rfl, hb⟩; have n0_ := Aside0.mk (below_step (by repeat (first | (with_reducible first | exact HB.out | apply below_alloc | apply pw_below_drewN | apply below_drew1) | exact HB.out)) hb); clear HB; have HB := n0_; clear n0_; (try clear hb); (try clear hb2); (try clear hk); (try clear hi)) | (go_at_call 39; (with_reducible refine (fixed_Minus.calls ji28 ji22 t429 _ A36.out).mono ?_); rintro e w39 ⟨rfl, hb⟩; have n0_ := Aside0.mk (below_step (by repeat (first | (with_reducible first | exact HB.out | apply below_alloc | apply pw_below_drewN | apply below_drew1) | exact HB.out)) hb); clear HB; have HB := n0_; clear n0_; (try clear hb); (try clear hb2); (try clear hk); (try clear hi)) | (go_at_call 35; (with_reducible refine (point_Make.calls t428 t429 t430 _ A37.out).mono ?_); rintro e w' ⟨rfl, ⟨nd, rfl⟩⟩; (try first | exact ⟨rfl, _, World.drewN_drewN _ _ _⟩ | exact ⟨rfl, _, Eq.trans (World.drewN_drewN _ _ _) (congrArg (World.drewN _) (Nat.add_assoc _ _ _))⟩))); try go_wp2_with (first | (go_at_call 35; (with_reducible refine (point_Make.calls ji19 ji22 t427 _ A34.out).mono ?_); rintro e w' ⟨rfl, ⟨nd, rfl⟩⟩; (try first | exact ⟨rfl, _, World.drewN_drewN _ _ _⟩ | exact ⟨rfl, _, Eq.trans (World.drewN_drewN _ _ _) (congrArg (World.drewN _) (Nat.add_assoc _ _ _))⟩)) | (go_at_call 39; (with_reducible refine (fixed_Minus.calls ji25 ji19 t428 _ A35.out).mono ?_); rintro e w38 ⟨rfl, hb⟩; have n0_ := Aside0.mk (below_step (by repeat (first | (with_reducible first | exact HB.out | apply below_alloc | apply pw_below_drewN | apply below_drew1) | exact HB.out)) hb); clear HB; have HB := n0_; clear n0_; (try clear hb); (try clear hb2); (try clear hk); (try clear hi)) | (go_at_call 39; (with_reducible refine (fixed_Minus.calls ji28 ji22 t429 _ A36.out).mono ?_); rintro e w39 ⟨rfl, hb⟩; have n0_ := Aside0.mk (below_step (by repeat (first | (with_reducible first | exact HB.out | apply below_alloc | apply pw_below_drewN | apply below_drew1) | exact HB.out)) hb); clear HB; have HB := n0_; clear n0_; (try clear hb); (try clear hb2); (try clear hk); (try clear hi)) | (go_at_call 35; (with_reducible refine (point_Make.calls t428 t429 t430 _ A37.out).mono ?_); rintro e w' ⟨rfl, ⟨nd, rfl⟩⟩; (try first | exact ⟨rfl, _, World.drewN_drewN _ _ _⟩ | exact ⟨rfl, _, Eq.trans (World.drewN_drewN _ _ _) (congrArg (World.drewN _) (Nat.add_assoc _ _ _))⟩))))
               go_ret3
               exact ⟨by first | rfl | (simp [errW_none, errW_some] <;> rfl) | (simp only [← hji19, ← hji22, ← hji25, ← hji28]; first | rfl | (simp [errW_none, errW_some] <;> rfl)) | (simp [*, errW_none, errW_some] <;> rfl), by repeat (first | (with_reducible first | exact HB.out | apply below_alloc | apply pw_below_drewN | apply below_drew1) | exact HB.out)⟩
           ·rw [if_neg c27] at H
            exact absurd H (by simp)
          ·rw [if_neg c26] at H
           exact absurd H (by simp)
         ·rw [if_neg c24] at H
          exact absurd H (by simp)
        ·rw [if_neg c23] at H
         exact absurd H (by simp)
       ·rw [if_neg c21] at H
        exact absurd H (by simp)
      ·rw [if_neg c20] at H
       exact absurd H (by simp)
     ·rw [if_neg c18] at H
      exact absurd H (by simp)
    ·rw [if_neg c17] at H
     exact absurd H (by simp)

end Go.Proofs.Ytdpeeinmckohgaa.PC
