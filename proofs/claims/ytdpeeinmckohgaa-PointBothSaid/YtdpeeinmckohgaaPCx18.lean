-- Written by wprint.py, a program of this session's, over the kit's print.
import Derived.Test.YtdpeeinmckohgaaPCx0
import Derived.Test.YtdpeeinmckohgaaPCx1
import Derived.Test.YtdpeeinmckohgaaPCx3
import Derived.Test.YtdpeeinmckohgaaPCx9
import Derived.Test.YtdpeeinmckohgaaPCx13
namespace Go.Proofs.Ytdpeeinmckohgaa.PC
open Go.RowKit Go.Proofs.YtdpeeinmckohgaaW.PrintWords Go.Proofs.YtdpeeinmckohgaaW.PrintLast Go.Proofs.YtdpeeinmckohgaaW.PrintMore
attribute [local go_sem] max2_int min2_int max_two min_two max_three min_three max_four min_four fl_eql fl_neq fl_lss fl_leq fl_gtr fl_geq fl_add fl_of fl_int cx_mk cx_real cx_imag cx_eql cx_neq cx_add st_f64 st_c128   -- for this text's walks alone
set_option linter.unusedVariables false
set_option linter.unusedSimpArgs false

/-! ### point_Join: function 29 -/
def point_Join.j0 : Nat → List Int → List Int → List Int → List Int → Bool → Option (C128 × C128 × Int)
  | 0, _, _, _, _, _ => none
  | k + 1, x11, x12, x14, x15, x41 => if x41 = true then (some (((0, 0) : C128), ((0, 0) : C128), 1)) else (if 0 < (x11.length : Int) then (if 2 < (x11.length : Int) then (if 0 < (x12.length : Int) then (if 2 < (x12.length : Int) then ((point_Make.f (mn (rd x11 0) (rd x11 2)) (mn (rd x12 0) (rd x12 2))).bind fun t394 => (if 0 < (x14.length : Int) then (if 1 < (x14.length : Int) then ((fixed_Minus.f (mx (rd x14 0) (rd x14 1)) (mn (rd x11 0) (rd x11 2))).bind fun t397 => (if 0 < (x15.length : Int) then (if 1 < (x15.length : Int) then ((fixed_Minus.f (mx (rd x15 0) (rd x15 1)) (mn (rd x12 0) (rd x12 2))).bind fun t400 => ((point_Make.f t397 t400).bind fun t401 => (some (t394, t401, 0)))) else (none)) else (none))) else (none)) else (none))) else (none)) else (none)) else (none)) else (none))
def point_Join.f (k : Nat) (a0 : C128) (a1 : C128) (a2 : C128) (a3 : C128) : Option (C128 × C128 × Int) := (point_halves.f k (([a0, a1, a2, a3] : List C128))).bind fun bt376 => ((point_far.f k bt376.1 bt376.2.1).bind fun bt383 => (if bt376.2.2 = true then (point_Join.j0 k bt376.1 bt376.2.1 bt383.1 bt383.2.1 (!bt383.2.2)) else (point_Join.j0 k bt376.1 bt376.2.1 bt383.1 bt383.2.1 true)))
theorem point_Join.mono_l : ∀ k, (∀ y0 y1 y2 y3 y4, LeO (point_Join.j0 k y0 y1 y2 y3 y4) (point_Join.j0 (k + 1) y0 y1 y2 y3 y4))
  | 0 => fun _ _ _ _ _ r h => by simp [point_Join.j0] at h
  | k + 1 => by
    have ih0 := point_Join.mono_l k
    · intro y0 y1 y2 y3 y4
      unfold point_Join.j0
      repeat' first
      | (with_reducible exact ih0 _ _ _ _ _)
      | (with_reducible exact point_far.mono _ _ _)
      | (with_reducible exact point_halves.mono _ _)
      | (with_reducible exact LeO.refl _)
      | (with_reducible exact LeO.none _)
      | (with_reducible refine LeO.ite ?_ ?_)
      | (with_reducible refine LeO.bind ?_ (fun _ => ?_))
      | exact ih0 _ _ _ _ _
      | exact point_far.mono _ _ _
      | exact point_halves.mono _ _
      | exact LeO.none _
      | refine LeO.ite ?_ ?_
      | refine LeO.bind ?_ (fun _ => ?_)
theorem point_Join.mono : ∀ a0 a1 a2 a3 k, LeO (point_Join.f k a0 a1 a2 a3) (point_Join.f (k + 1) a0 a1 a2 a3) := by
  intro a0 a1 a2 a3 k
  have ih0 := point_Join.mono_l k
  unfold point_Join.f
  repeat' first
      | (with_reducible exact ih0 _ _ _ _ _)
      | (with_reducible exact point_far.mono _ _ _)
      | (with_reducible exact point_halves.mono _ _)
      | (with_reducible exact LeO.refl _)
      | (with_reducible exact LeO.none _)
      | (with_reducible refine LeO.ite ?_ ?_)
      | (with_reducible refine LeO.bind ?_ (fun _ => ?_))
      | exact ih0 _ _ _ _ _
      | exact point_far.mono _ _ _
      | exact point_halves.mono _ _
      | exact LeO.none _
      | refine LeO.ite ?_ ?_
      | refine LeO.bind ?_ (fun _ => ?_)
def point_Join.T5 : Bool × List (List Nat × List Nat) := (true, [([], []), ([0], [0]), ([1], [1]), ([], []), ([3], [3]), ([4], [4]), ([2, 5], [2, 5]), ([], []), ([7], [7]), ([8], [8]), ([], []), ([10], [10]), ([11], [11]), ([9, 12], [9, 12]), ([6, 0, 1, 2, 3, 4, 5, 6], [6]), ([13, 14, 0, 1, 2, 3, 4, 5, 6, 7, 8, 9, 10, 11, 12, 13, 14], [13])])
def point_Join.B5 : List Nat := [0, 1, 3, 0, 8, 24, 63, 0, 128, 384, 0, 1024, 3072, 8064, 127, 32767]
theorem point_Join.tab5 : rtab .any (opsOf Try.f29 5) = point_Join.T5 := by kernel_rfl
theorem point_Join.bits5 : waitsOk point_Join.T5.2 point_Join.B5 = true := by kernel_rfl
def point_Join.T6 : Bool × List (List Nat × List Nat) := (true, [([], []), ([], []), ([0, 1], [0, 1]), ([], []), ([3], [3]), ([4], [4]), ([], []), ([6], [6]), ([7], [7]), ([5, 8], [5, 8]), ([], []), ([9, 10, 2], [9, 10]), ([], []), ([12], [12]), ([13], [13]), ([], []), ([15], [15]), ([16], [16]), ([14, 17], [14, 17]), ([], []), ([18, 19, 11], [18, 19]), ([11, 20, 20], [11, 20]), ([2, 21, 0, 1, 2], [2]), ([21, 22, 0, 1, 2, 3, 4, 5, 6, 7, 8, 9, 10, 11, 12, 13, 14, 15, 16, 17, 18, 19, 20, 21, 22], [21]), ([23, 0, 1, 2, 3, 4, 5, 6, 7, 8, 9, 10, 11, 12, 13, 14, 15, 16, 17, 18, 19, 20, 21, 22, 23], [])])
def point_Join.B6 : List Nat := [0, 0, 3, 0, 8, 24, 0, 64, 192, 504, 0, 2047, 0, 4096, 12288, 0, 32768, 98304, 258048, 0, 1048575, 2097151, 4194303, 8388607, 16777215]
theorem point_Join.tab6 : rtab .any (opsOf Try.f29 6) = point_Join.T6 := by kernel_rfl
theorem point_Join.bits6 : waitsOk point_Join.T6.2 point_Join.B6 = true := by kernel_rfl
abbrev joinMask0 : Array Bool := #[false, false, false, false, false, false, false, false, false, false, false, false, false, false, false, false, false, false, false, false, false, false, false, false, false]
abbrev joinMask1 : Array Bool := #[false, false, false, false, false, false, false, false, false, false, false, false, false, false, false, false]
abbrev joinMask2 : Array Bool := #[true, false, false, false, false, false, false, false, false, false, false, false, false, false, false, false, false, false, false, false, false, false, false, false, false]
abbrev joinMask3 : Array Bool := #[true, false, false, false, false, false, false, false, false, false, false, false, false, false, false, false]
abbrev joinMask4 : Array Bool := #[true, true, false, false, false, false, false, false, false, false, false, false, false, false, false, false, false, false, false, false, false, false, false, false, false]
abbrev joinMask5 : Array Bool := #[true, true, false, false, false, false, false, false, false, false, false, false, false, false, false, false]
abbrev joinMask6 : Array Bool := #[true, true, false, true, false, false, false, false, false, false, false, false, false, false, false, false, false, false, false, false, false, false, false, false, false]
abbrev joinMask7 : Array Bool := #[true, true, false, true, false, false, false, false, false, false, false, false, false, false, false, false]
abbrev joinMask8 : Array Bool := #[true, true, false, true, true, false, false, false, false, false, false, false, false, false, false, false, false, false, false, false, false, false, false, false, false]
abbrev joinMask9 : Array Bool := #[true, true, false, true, true, false, false, false, false, false, false, false, false, false, false, false]
abbrev joinMask10 : Array Bool := #[true, true, false, true, true, false, false, true, false, false, false, false, false, false, false, false]
abbrev joinMask11 : Array Bool := #[true, true, false, true, true, false, false, true, true, false, false, false, false, false, false, false]
abbrev joinMask12 : Array Bool := #[true, true, false, true, true, false, false, true, true, false, true, false, false, false, false, false]
abbrev joinMask13 : Array Bool := #[true, true, false, true, true, false, false, true, true, false, true, true, false, false, false, false]
abbrev joinMask14 : Array Bool := #[true, true, false, true, true, false, true, false, false, false, false, false, false, false, false, false, false, false, false, false, false, false, false, false, false]
abbrev joinMask15 : Array Bool := #[true, true, false, true, true, false, true, true, false, false, false, false, false, false, false, false, false, false, false, false, false, false, false, false, false]
abbrev joinMask16 : Array Bool := #[true, true, false, true, true, false, true, true, false, false, true, false, false, false, false, false, false, false, false, false, false, false, false, false, false]
abbrev joinMask17 : Array Bool := #[true, true, false, true, true, false, true, true, false, false, true, false, true, false, false, false, false, false, false, false, false, false, false, false, false]
abbrev joinMask18 : Array Bool := #[true, true, false, true, true, false, true, true, false, false, true, false, true, true, false, false, false, false, false, false, false, false, false, false, false]
abbrev joinMask19 : Array Bool := #[true, true, false, true, true, false, true, true, false, false, true, false, true, true, false, true, false, false, false, false, false, false, false, false, false]
abbrev joinMask20 : Array Bool := #[true, true, false, true, true, false, true, true, false, false, true, false, true, true, false, true, true, false, false, false, false, false, false, false, false]
abbrev joinMask21 : Array Bool := #[true, true, false, true, true, false, true, true, false, false, true, false, true, true, false, true, true, false, false, true, false, false, false, false, false]
abbrev joinMask22 : Array Bool := #[true, true, false, true, true, true, true, true, false, false, true, false, true, true, false, true, true, false, false, true, false, false, false, false, false]
abbrev joinMask23 : Array Bool := #[true, true, false, true, true, true, true, true, true, false, true, false, true, true, false, true, true, false, false, true, false, false, false, false, false]
abbrev joinMask24 : Array Bool := #[true, true, false, true, true, true, true, true, true, true, true, false, true, true, false, true, true, false, false, true, false, false, false, false, false]
abbrev joinMask25 : Array Bool := #[true, true, false, true, true, true, true, true, true, true, true, false, true, true, true, true, true, false, false, true, false, false, false, false, false]
abbrev joinMask26 : Array Bool := #[true, true, false, true, true, true, true, true, true, true, true, false, true, true, true, true, true, true, false, true, false, false, false, false, false]
abbrev joinMask27 : Array Bool := #[true, true, false, true, true, true, true, true, true, true, true, false, true, true, true, true, true, true, true, true, false, false, false, false, false]
abbrev joinMask28 : Array Bool := #[true, true, true, true, true, false, false, true, true, false, true, true, false, false, false, false]
abbrev joinMask29 : Array Bool := #[true, true, true, true, true, true, false, true, true, false, true, true, false, false, false, false]
abbrev joinMask30 : Array Bool := #[true, true, true, true, true, true, true, true, true, false, true, true, false, false, false, false]
abbrev joinMask31 : Array Bool := #[true, true, true, true, true, true, true, true, true, false, true, true, false, false, true, false]
abbrev joinMask32 : Array Bool := #[true, true, true, true, true, true, true, true, true, true, true, false, true, true, true, true, true, true, true, true, false, false, false, false, false]
abbrev joinMask33 : Array Bool := #[true, true, true, true, true, true, true, true, true, true, true, true, false, false, true, false]
abbrev joinMask34 : Array Bool := #[true, true, true, true, true, true, true, true, true, true, true, true, true, false, true, false]
abbrev joinMask35 : Array Bool := #[true, true, true, true, true, true, true, true, true, true, true, true, true, true, true, false]
abbrev joinMask36 : Array Bool := #[true, true, true, true, true, true, true, true, true, true, true, true, true, true, true, true, true, true, true, true, false, false, false, false, false]
abbrev joinMask37 : Array Bool := #[true, true, true, true, true, true, true, true, true, true, true, true, true, true, true, true, true, true, true, true, true, false, false, false, false]
abbrev joinMask38 : Array Bool := #[true, true, true, true, true, true, true, true, true, true, true, true, true, true, true, true, true, true, true, true, true, true, false, false, false]
abbrev joinMask39 : Array Bool := #[true, true, true, true, true, true, true, true, true, true, true, true, true, true, true, true, true, true, true, true, true, true, true, false, false]
abbrev joinMask40 : Array Bool := #[true, true, true, true, true, true, true, true, true, true, true, true, true, true, true, true, true, true, true, true, true, true, true, true, false]
abbrev joinMask41 : Array Bool := #[true, true, true, true, true, true, true, true, true, true, true, true, true, true, true, true, true, true, true, true, true, true, true, true, true]
abbrev joinMask42 : Array Bool := #[true, true, true, true, true, true, true, true, true, true, true, true, true, true, true, true]
set_option maxHeartbeats 8000000 in
set_option maxRecDepth 100000 in
theorem point_Join.calls (k : Nat) (a0 : C128) (a1 : C128) (a2 : C128) (a3 : C128) (r1 : C128) (r2 : C128) (r3 : Int) (w : World) (h : point_Join.f k a0 a1 a2 a3 = some (r1, r2, r3)) :
  Calls Try.prog 29 #[.complex .f64 a0.1 a0.2, .complex .f64 a1.1 a1.2, .complex .f64 a2.1 a2.2, .complex .f64 a3.1 a3.2] w fun e w' => e = .returned (.tuple #[.complex .f64 r1.1 r1.2, .complex .f64 r2.1 r2.2, .int .i64 r3]) ∧ Below w.heap.size w w' := by
 have HB := Aside0.mk (Below.refl w.heap.size w)
 have H : ((point_halves.f k (([a0, a1, a2, a3] : List C128))).bind fun bt376 => ((point_far.f k bt376.1 bt376.2.1).bind fun bt383 => (if bt376.2.2 = true then (point_Join.j0 k bt376.1 bt376.2.1 bt383.1 bt383.2.1 (!bt383.2.2)) else (point_Join.j0 k bt376.1 bt376.2.1 bt383.1 bt383.2.1 true)))) = some (r1, r2, r3) := h
 clear h
 obtain ⟨y373, hy373⟩ : ∃ y_ : List C128, y_ = (([a0, a1, a2, a3] : List C128)) := ⟨_, rfl⟩
 replace H : ((point_halves.f k y373).bind fun bt376 => ((point_far.f k bt376.1 bt376.2.1).bind fun bt383 => (if bt376.2.2 = true then (point_Join.j0 k bt376.1 bt376.2.1 bt383.1 bt383.2.1 (!bt383.2.2)) else (point_Join.j0 k bt376.1 bt376.2.1 bt383.1 bt383.2.1 true)))) = some (r1, r2, r3) := by first | (rw [hy373]; with_reducible exact H) | (have H2_ := (Option.bind_some _ _).symm.trans H; rw [hy373]; with_reducible exact H2_) | (have H2_ := (Option.bind_some _ _).symm.trans H; with_reducible exact H2_) | with_reducible exact H | (rw [hy373]; exact H) | exact H
 have Ny373 := Aside0.mk hy373; clear hy373
 replace H := Option.bind_eq_some_iff.mp H
 obtain ⟨⟨t376, t377, t378⟩, A50, H⟩ := H
 replace H : ((point_far.f k t376 t377).bind fun bt383 => (if t378 = true then (point_Join.j0 k t376 t377 bt383.1 bt383.2.1 (!bt383.2.2)) else (point_Join.j0 k t376 t377 bt383.1 bt383.2.1 true))) = some (r1, r2, r3) := H
 have A5 := Aside0.mk A50; clear A50
 replace H := Option.bind_eq_some_iff.mp H
 obtain ⟨⟨t383, t384, t385⟩, A60, H⟩ := H
 replace H : (if t378 = true then (point_Join.j0 k t376 t377 t383 t384 (!t385)) else (point_Join.j0 k t376 t377 t383 t384 true)) = some (r1, r2, r3) := H
 have A6 := Aside0.mk A60; clear A60; have HC7 := Aside0.mk H; clear H
 go_enter Try.func29, Try.ntmps29
 go_upto_region 3 with (first | ((with_reducible refine gate_dst (N := 24) rfl ?_); refine Kd.R_lit Kd.c128 _ 28 ?hg (N := 24) ?hd (xs := ([a0, a1, a2, a3] : List C128)) (inner := [.complex .f64 a0.1 a0.2, .complex .f64 a1.1 a1.2, .complex .f64 a2.1 a2.2, .complex .f64 a3.1 a3.2]) (ok := fun _ => True) (okp := fun _ => True) ?hr ?hp (fun _ hk => hk) trivial (Below.refl _ _) (Nat.le_refl _) (by simp) ?_; (case hd => rfl); (case hg => rfl); (case hr => first | (go_simp; done) | (go_simp; rfl)); (case hp => exact (Reps.one (show Kd.M Kd.c128 _ _ _ a0 [.complex .f64 a0.1 a0.2] from rfl) (Reps.one (show Kd.M Kd.c128 _ _ _ a1 [.complex .f64 a1.1 a1.2] from rfl) (Reps.one (show Kd.M Kd.c128 _ _ _ a2 [.complex .f64 a2.1 a2.2] from rfl) (Reps.one (show Kd.M Kd.c128 _ _ _ a3 [.complex .f64 a3.1 a3.2] from rfl) (Reps.none _ _)))))); intro v374 w8 ho9 hb hg_ hnew_; clear hg_ hnew_; (first | rw [← Ny373.out] at ho9 | (simp only [Int.reduceToNat] at ho9; rw [← Ny373.out] at ho9)); have n0_ := Aside0.mk (Kd.R_lower ho9 (below_size (by repeat (first | (with_reducible first | exact HB.out | apply below_alloc | apply pw_below_drewN | apply below_drew1) | exact HB.out)))); have n1_ := Aside0.mk (below_step (by repeat (first | (with_reducible first | exact HB.out | apply below_alloc | apply pw_below_drewN | apply below_drew1) | exact HB.out)) hb); clear HB; have HO375 := n0_; have HB := n1_; clear n0_ n1_; clear hb ho9; obtain ⟨Ao10, co10, eo10⟩ := Kd.R_slice HO375.out; subst eo10) | ((with_reducible refine gate_callee (f := 36) rfl ?_); refine goesL_ (some 25) rfl rfl Try.func36 (by kernel_rfl) rfl #[.slice Ao10 y373.length co10] rfl (by (try simp only [List.map_toArray, List.map_cons, List.map_nil]); first | done | rfl | (simp only [List.length_drop, List.length_take]; rfl)) ?_; (with_reducible refine (point_halves.calls k _ _ y373 t376 t377 t378 _ ?side1 ?side2 A5.out).mono ?_); (case side1 => repeat (first | exact (Kd.R_reads' HO375.out).2.2 | (with_reducible refine Kd.C_alloc ?_ _) | (with_reducible refine Kd.C_drewN ?_ _) | (with_reducible refine Kd.C_drew ?_))); (case side2 => exact (Kd.R_reads' HO375.out).2.1); rintro e w11 ⟨v379, v381, rfl, ho0, ho1, hb⟩; refine ⟨_, rfl, ?_⟩; have n0_ := Aside0.mk (Kd.R_below (by (with_reducible repeat (first | apply Kd.R_alloc | apply Kd.R_drewN | apply Kd.R_drew)); exact HO375.out) hb); have n1_ := Aside0.mk (Kd.R_lower ho0 (below_size (by repeat (first | (with_reducible first | exact HB.out | apply below_alloc | apply pw_below_drewN | apply below_drew1) | exact HB.out)))); have n2_ := Aside0.mk (Kd.R_lower ho1 (below_size (by repeat (first | (with_reducible first | exact HB.out | apply below_alloc | apply pw_below_drewN | apply below_drew1) | exact HB.out)))); have n3_ := Aside0.mk (below_step (by repeat (first | (with_reducible first | exact HB.out | apply below_alloc | apply pw_below_drewN | apply below_drew1) | exact HB.out)) hb); clear HO375; clear HB; have HO375 := n0_; have HO380 := n1_; have HO382 := n2_; have HB := n3_; clear n0_ n1_ n2_ n3_; (try clear hb); (try clear hb2); (try clear hk); (try clear hi); (try clear ho0); (try clear ho1); obtain ⟨Ao12, co12, eo12⟩ := Kd.R_slice HO380.out; subst eo12; obtain ⟨Ao13, co13, eo13⟩ := Kd.R_slice HO382.out; subst eo13) | ((with_reducible refine gate_callee (f := 40) rfl ?_); refine goesL_ (some 32) rfl rfl Try.func40 (by kernel_rfl) rfl #[.slice Ao12 t376.length co12, .slice Ao13 t377.length co13] rfl (by (try simp only [List.map_toArray, List.map_cons, List.map_nil]); first | done | rfl | (simp only [List.length_drop, List.length_take]; rfl)) ?_; (with_reducible refine (point_far.calls k _ _ t376 _ _ t377 t383 t384 t385 _ ?side1 ?side2 ?side3 ?side4 A6.out).mono ?_); (case side1 => repeat (first | exact (Kd.R_reads' HO380.out).2.2 | (with_reducible refine Kd.C_alloc ?_ _) | (with_reducible refine Kd.C_drewN ?_ _) | (with_reducible refine Kd.C_drew ?_))); (case side2 => exact (Kd.R_reads' HO380.out).2.1); (case side3 => repeat (first | exact (Kd.R_reads' HO382.out).2.2 | (with_reducible refine Kd.C_alloc ?_ _) | (with_reducible refine Kd.C_drewN ?_ _) | (with_reducible refine Kd.C_drew ?_))); (case side4 => exact (Kd.R_reads' HO382.out).2.1); rintro e w14 ⟨v386, v388, rfl, ho0, ho1, hb⟩; refine ⟨_, rfl, ?_⟩; have n0_ := Aside0.mk (Kd.R_below (by (with_reducible repeat (first | apply Kd.R_alloc | apply Kd.R_drewN | apply Kd.R_drew)); exact HO375.out) hb); have n1_ := Aside0.mk (Kd.R_mono (Kd.R_told (Kd.R_told (Kd.R_old (by (with_reducible repeat (first | apply Kd.R_alloc | apply Kd.R_drewN | apply Kd.R_drew)); exact HO380.out) hb) (Kd.R_base ho0)) (Kd.R_base ho1)) (fun _ h_ => h_.1)); have n2_ := Aside0.mk (Kd.R_mono (Kd.R_told (Kd.R_told (Kd.R_old (by (with_reducible repeat (first | apply Kd.R_alloc | apply Kd.R_drewN | apply Kd.R_drew)); exact HO382.out) hb) (Kd.R_base ho0)) (Kd.R_base ho1)) (fun _ h_ => h_.1)); have n3_ := Aside0.mk (Kd.R_lower (Kd.R_new' (Kd.R_new' ho0 (Kd.R_lt (by (with_reducible repeat (first | apply Kd.R_alloc | apply Kd.R_drewN | apply Kd.R_drew)); exact HO380.out))) (Kd.R_lt (by (with_reducible repeat (first | apply Kd.R_alloc | apply Kd.R_drewN | apply Kd.R_drew)); exact HO382.out))) (below_size (by repeat (first | (with_reducible first | exact HB.out | apply below_alloc | apply pw_below_drewN | apply below_drew1) | exact HB.out)))); have n4_ := Aside0.mk (Kd.R_lower (Kd.R_new' (Kd.R_new' ho1 (Kd.R_lt (by (with_reducible repeat (first | apply Kd.R_alloc | apply Kd.R_drewN | apply Kd.R_drew)); exact HO380.out))) (Kd.R_lt (by (with_reducible repeat (first | apply Kd.R_alloc | apply Kd.R_drewN | apply Kd.R_drew)); exact HO382.out))) (below_size (by repeat (first | (with_reducible first | exact HB.out | apply below_alloc | apply pw_below_drewN | apply below_drew1) | exact HB.out)))); have n5_ := Aside0.mk (below_step (by repeat (first | (with_reducible first | exact HB.out | apply below_alloc | apply pw_below_drewN | apply below_drew1) | exact HB.out)) hb); clear HO375; clear HO380; clear HO382; clear HB; have HO375 := n0_; have HO380 := n1_; have HO382 := n2_; have HO387 := n3_; have HO389 := n4_; have HB := n5_; clear n0_ n1_ n2_ n3_ n4_ n5_; (try clear hb); (try clear hb2); (try clear hk); (try clear hi); (try clear ho0); (try clear ho1)))
 (try simp only [Act.put, List.setIfInBounds_toArray, List.set_cons_zero, List.set_cons_succ])
 go_cut [41] (fun v41 wc => ∃ (kq : Nat) (x41_6 : Bool), v41 = .bool x41_6 ∧ Aside0 (point_Join.j0 kq t376 t377 t383 t384 x41_6 = some (r1, r2, r3)) ∧ Aside0 (kq ≤ k) ∧ Aside0 (Kd.R (Kd.int .i64) 3 wc w.heap.size (fun k_ => some k_ ≠ ((.slice Ao13 t377.length co13) : Value).ownBlock ∧ some k_ ≠ (v386 : Value).ownBlock ∧ some k_ ≠ (v388 : Value).ownBlock) (.slice Ao12 t376.length co12) t376) ∧ Aside0 (Kd.R (Kd.int .i64) 3 wc w.heap.size (fun k_ => some k_ ≠ ((.slice Ao12 t376.length co12) : Value).ownBlock ∧ some k_ ≠ (v386 : Value).ownBlock ∧ some k_ ≠ (v388 : Value).ownBlock) (.slice Ao13 t377.length co13) t377) ∧ Aside0 (Kd.R (Kd.int .i64) 3 wc w.heap.size (fun k_ => some k_ ≠ ((.slice Ao12 t376.length co12) : Value).ownBlock ∧ some k_ ≠ ((.slice Ao13 t377.length co13) : Value).ownBlock ∧ some k_ ≠ (v388 : Value).ownBlock) v386 t383) ∧ Aside0 (Kd.R (Kd.int .i64) 3 wc w.heap.size (fun k_ => some k_ ≠ ((.slice Ao12 t376.length co12) : Value).ownBlock ∧ some k_ ≠ ((.slice Ao13 t377.length co13) : Value).ownBlock ∧ some k_ ≠ (v386 : Value).ownBlock) v388 t384) ∧ Aside0 (Below w.heap.size w wc))
 case first =>
  have H := HC7.out
  clear HC7
  by_cases c15 : t378 = true
  ·subst c15
   have H1 : (point_Join.j0 k t376 t377 t383 t384 (!t385)) = some (r1, r2, r3) := by rw [if_pos rfl] at H; exact H
   clear H; have H := H1; clear H1
   have H' := Aside0.mk H
   clear H
   go_wp2
   go_meet
   case rel => exact ⟨_, (!t385), (by first | rfl | (simp; done) | (simp [*]; done)), H', ⟨by first | omega | exact Nat.le_refl _⟩, ⟨by (with_reducible repeat (first | apply Kd.R_alloc | apply Kd.R_drewN | apply Kd.R_drew)); exact Kd.R_mono HO380.out (fun _ hk => ⟨hk.1.1, ⟨hk.1.2, hk.2⟩⟩)⟩, ⟨by (with_reducible repeat (first | apply Kd.R_alloc | apply Kd.R_drewN | apply Kd.R_drew)); exact Kd.R_mono HO382.out (fun _ hk => ⟨hk.1.1, ⟨hk.1.2, hk.2⟩⟩)⟩, ⟨by (with_reducible repeat (first | apply Kd.R_alloc | apply Kd.R_drewN | apply Kd.R_drew)); exact Kd.R_mono HO387.out (fun _ hk => ⟨hk.1.2, ⟨hk.2, hk.1.1⟩⟩)⟩, ⟨by (with_reducible repeat (first | apply Kd.R_alloc | apply Kd.R_drewN | apply Kd.R_drew)); exact Kd.R_mono HO389.out (fun _ hk => ⟨hk.1.2, ⟨hk.2, hk.1.1⟩⟩)⟩, ⟨by repeat (first | (with_reducible first | exact HB.out | apply below_alloc | apply pw_below_drewN | apply below_drew1) | exact HB.out)⟩⟩
  ·replace c15 := Bool.eq_false_iff.mpr c15
   subst c15
   have H1 : (point_Join.j0 k t376 t377 t383 t384 true) = some (r1, r2, r3) := by rw [if_neg (show ¬ (false = true) by decide)] at H; exact H
   clear H; have H := H1; clear H1
   have H' := Aside0.mk H
   clear H
   go_wp2
   go_meet
   case rel => exact ⟨_, (true), (by first | rfl | (simp; done) | (simp [*]; done)), H', ⟨by first | omega | exact Nat.le_refl _⟩, ⟨by (with_reducible repeat (first | apply Kd.R_alloc | apply Kd.R_drewN | apply Kd.R_drew)); exact Kd.R_mono HO380.out (fun _ hk => ⟨hk.1.1, ⟨hk.1.2, hk.2⟩⟩)⟩, ⟨by (with_reducible repeat (first | apply Kd.R_alloc | apply Kd.R_drewN | apply Kd.R_drew)); exact Kd.R_mono HO382.out (fun _ hk => ⟨hk.1.1, ⟨hk.1.2, hk.2⟩⟩)⟩, ⟨by (with_reducible repeat (first | apply Kd.R_alloc | apply Kd.R_drewN | apply Kd.R_drew)); exact Kd.R_mono HO387.out (fun _ hk => ⟨hk.1.2, ⟨hk.2, hk.1.1⟩⟩)⟩, ⟨by (with_reducible repeat (first | apply Kd.R_alloc | apply Kd.R_drewN | apply Kd.R_drew)); exact Kd.R_mono HO389.out (fun _ hk => ⟨hk.1.2, ⟨hk.2, hk.1.1⟩⟩)⟩, ⟨by repeat (first | (with_reducible first | exact HB.out | apply below_alloc | apply pw_below_drewN | apply below_drew1) | exact HB.out)⟩⟩
 case rest =>
  clear HC7
  try clear c1
  try clear c2
  try clear p2
  try clear c3
  try clear c4
  try clear c12
  try clear c15
  obtain ⟨kq, x41_6, rfl, HA, HJ6, HO_11, HO_12, HO_14, HO_15, HB⟩ := hcut
  cases kq with
  | zero => exact absurd HA.out (by simp [point_Join.j0])
  | succ kj6 =>
   have H := HA.out
   clear HA
   simp only [point_Join.j0] at H
   by_cases c16 : x41_6 = true
   ·subst c16
    have H1 : (some (((0, 0) : C128), ((0, 0) : C128), 1)) = some (r1, r2, r3) := by rw [if_pos rfl] at H; exact H
    clear H; have H := H1; clear H1
    simp only [Option.some.injEq, Prod.mk.injEq] at H
    obtain ⟨rfl, rfl, rfl⟩ := H
    go_wp2
    go_ret3
    exact ⟨by first | rfl | (simp [errW_none, errW_some] <;> rfl) | (simp [*, errW_none, errW_some] <;> rfl), by repeat (first | (with_reducible first | exact HB.out | apply below_alloc | apply pw_below_drewN | apply below_drew1) | exact HB.out)⟩
   ·replace c16 := Bool.eq_false_iff.mpr c16
    subst c16
    have H1 : (if 0 < (t376.length : Int) then (if 2 < (t376.length : Int) then (if 0 < (t377.length : Int) then (if 2 < (t377.length : Int) then ((point_Make.f (mn (rd t376 0) (rd t376 2)) (mn (rd t377 0) (rd t377 2))).bind fun t394 => (if 0 < (t383.length : Int) then (if 1 < (t383.length : Int) then ((fixed_Minus.f (mx (rd t383 0) (rd t383 1)) (mn (rd t376 0) (rd t376 2))).bind fun t397 => (if 0 < (t384.length : Int) then (if 1 < (t384.length : Int) then ((fixed_Minus.f (mx (rd t384 0) (rd t384 1)) (mn (rd t377 0) (rd t377 2))).bind fun t400 => ((point_Make.f t397 t400).bind fun t401 => (some (t394, t401, 0)))) else (none)) else (none))) else (none)) else (none))) else (none)) else (none)) else (none)) else (none)) = some (r1, r2, r3) := by rw [if_neg (show ¬ (false = true) by decide)] at H; exact H
    clear H; have H := H1; clear H1
    by_cases c17 : 0 < (t376.length : Int)
    ·rw [if_pos c17] at H
     have c17b0 : decide (0 < (t376.length : Int)) = true := decide_eq_true c17
     have c17b1 : decide (0 < t376.length) = true := decide_eq_true (by omega)
     clear c17
     by_cases c18 : 2 < (t376.length : Int)
     ·rw [if_pos c18] at H
      have c18b0 : decide (2 < (t376.length : Int)) = true := decide_eq_true c18
      have c18b1 : decide (2 < t376.length) = true := decide_eq_true (by omega)
      clear c18
      obtain ⟨ji19, hji19⟩ : ∃ j_ : Int, (mn (rd t376 0) (rd t376 2)) = j_ := ⟨_, rfl⟩
      replace H : (if 0 < (t377.length : Int) then (if 2 < (t377.length : Int) then ((point_Make.f (ji19) (mn (rd t377 0) (rd t377 2))).bind fun t394 => (if 0 < (t383.length : Int) then (if 1 < (t383.length : Int) then ((fixed_Minus.f (mx (rd t383 0) (rd t383 1)) (ji19)).bind fun t397 => (if 0 < (t384.length : Int) then (if 1 < (t384.length : Int) then ((fixed_Minus.f (mx (rd t384 0) (rd t384 1)) (mn (rd t377 0) (rd t377 2))).bind fun t400 => ((point_Make.f t397 t400).bind fun t401 => (some (t394, t401, 0)))) else (none)) else (none))) else (none)) else (none))) else (none)) else (none)) = some (r1, r2, r3) := by first | (rw [hji19] at H; exact H) | (simp only [hji19] at H ⊢; exact H)
      have hji19_ : (if (rd t376 2) < (rd t376 0) then (rd t376 2) else (rd t376 0)) = ji19 := hji19
      by_cases c20 : 0 < (t377.length : Int)
      ·rw [if_pos c20] at H
       have c20b0 : decide (0 < (t377.length : Int)) = true := decide_eq_true c20
       have c20b1 : decide (0 < t377.length) = true := decide_eq_true (by omega)
       clear c20
       by_cases c21 : 2 < (t377.length : Int)
       ·rw [if_pos c21] at H
        have c21b0 : decide (2 < (t377.length : Int)) = true := decide_eq_true c21
        have c21b1 : decide (2 < t377.length) = true := decide_eq_true (by omega)
        clear c21
        obtain ⟨ji22, hji22⟩ : ∃ j_ : Int, (mn (rd t377 0) (rd t377 2)) = j_ := ⟨_, rfl⟩
        replace H : ((point_Make.f (ji19) (ji22)).bind fun t394 => (if 0 < (t383.length : Int) then (if 1 < (t383.length : Int) then ((fixed_Minus.f (mx (rd t383 0) (rd t383 1)) (ji19)).bind fun t397 => (if 0 < (t384.length : Int) then (if 1 < (t384.length : Int) then ((fixed_Minus.f (mx (rd t384 0) (rd t384 1)) (ji22)).bind fun t400 => ((point_Make.f t397 t400).bind fun t401 => (some (t394, t401, 0)))) else (none)) else (none))) else (none)) else (none))) = some (r1, r2, r3) := by first | (rw [hji22] at H; exact H) | (simp only [hji22] at H ⊢; exact H)
        have hji22_ : (if (rd t377 2) < (rd t377 0) then (rd t377 2) else (rd t377 0)) = ji22 := hji22
        replace H := Option.bind_eq_some_iff.mp H
        obtain ⟨t394, A230, H⟩ := H
        replace H : (if 0 < (t383.length : Int) then (if 1 < (t383.length : Int) then ((fixed_Minus.f (mx (rd t383 0) (rd t383 1)) (ji19)).bind fun t397 => (if 0 < (t384.length : Int) then (if 1 < (t384.length : Int) then ((fixed_Minus.f (mx (rd t384 0) (rd t384 1)) (ji22)).bind fun t400 => ((point_Make.f t397 t400).bind fun t401 => (some (t394, t401, 0)))) else (none)) else (none))) else (none)) else (none)) = some (r1, r2, r3) := H
        have A23 := Aside0.mk A230; clear A230
        by_cases c24 : 0 < (t383.length : Int)
        ·rw [if_pos c24] at H
         have c24b0 : decide (0 < (t383.length : Int)) = true := decide_eq_true c24
         have c24b1 : decide (0 < t383.length) = true := decide_eq_true (by omega)
         clear c24
         by_cases c25 : 1 < (t383.length : Int)
         ·rw [if_pos c25] at H
          have c25b0 : decide (1 < (t383.length : Int)) = true := decide_eq_true c25
          have c25b1 : decide (1 < t383.length) = true := decide_eq_true (by omega)
          clear c25
          obtain ⟨ji26, hji26⟩ : ∃ j_ : Int, (mx (rd t383 0) (rd t383 1)) = j_ := ⟨_, rfl⟩
          replace H : ((fixed_Minus.f (ji26) (ji19)).bind fun t397 => (if 0 < (t384.length : Int) then (if 1 < (t384.length : Int) then ((fixed_Minus.f (mx (rd t384 0) (rd t384 1)) (ji22)).bind fun t400 => ((point_Make.f t397 t400).bind fun t401 => (some (t394, t401, 0)))) else (none)) else (none))) = some (r1, r2, r3) := by first | (rw [hji26] at H; exact H) | (simp only [hji26] at H ⊢; exact H)
          (try rw [hji26] at A23)
          have hji26_ : (if (rd t383 0) < (rd t383 1) then (rd t383 1) else (rd t383 0)) = ji26 := hji26
          replace H := Option.bind_eq_some_iff.mp H
          obtain ⟨t397, A270, H⟩ := H
          replace H : (if 0 < (t384.length : Int) then (if 1 < (t384.length : Int) then ((fixed_Minus.f (mx (rd t384 0) (rd t384 1)) (ji22)).bind fun t400 => ((point_Make.f t397 t400).bind fun t401 => (some (t394, t401, 0)))) else (none)) else (none)) = some (r1, r2, r3) := H
          have A27 := Aside0.mk A270; clear A270
          by_cases c28 : 0 < (t384.length : Int)
          ·rw [if_pos c28] at H
           have c28b0 : decide (0 < (t384.length : Int)) = true := decide_eq_true c28
           have c28b1 : decide (0 < t384.length) = true := decide_eq_true (by omega)
           clear c28
           by_cases c29 : 1 < (t384.length : Int)
           ·rw [if_pos c29] at H
            have c29b0 : decide (1 < (t384.length : Int)) = true := decide_eq_true c29
            have c29b1 : decide (1 < t384.length) = true := decide_eq_true (by omega)
            clear c29
            obtain ⟨ji30, hji30⟩ : ∃ j_ : Int, (mx (rd t384 0) (rd t384 1)) = j_ := ⟨_, rfl⟩
            replace H : ((fixed_Minus.f (ji30) (ji22)).bind fun t400 => ((point_Make.f t397 t400).bind fun t401 => (some (t394, t401, 0)))) = some (r1, r2, r3) := by first | (rw [hji30] at H; exact H) | (simp only [hji30] at H ⊢; exact H)
            (try rw [hji30] at A23); (try rw [hji30] at A27)
            have hji30_ : (if (rd t384 0) < (rd t384 1) then (rd t384 1) else (rd t384 0)) = ji30 := hji30
            replace H := Option.bind_eq_some_iff.mp H
            obtain ⟨t400, A310, H⟩ := H
            replace H : ((point_Make.f t397 t400).bind fun t401 => (some (t394, t401, 0))) = some (r1, r2, r3) := H
            have A31 := Aside0.mk A310; clear A310
            replace H := Option.bind_eq_some_iff.mp H
            obtain ⟨t401, A320, H⟩ := H
            replace H : (some (t394, t401, 0)) = some (r1, r2, r3) := H
            have A32 := Aside0.mk A320; clear A320
            simp only [Option.some.injEq, Prod.mk.injEq] at H
            obtain ⟨rfl, rfl, rfl⟩ := H
            try go_wp2
            have n0_ := Aside0.mk (Kd.R_drew HO_11.out); have n1_ := Aside0.mk (Kd.R_drew HO_12.out); have n2_ := Aside0.mk (Kd.R_drew HO_14.out); have n3_ := Aside0.mk (Kd.R_drew HO_15.out); have n4_ := Aside0.mk (below_drew1 HB.out); clear HO_11; clear HO_12; clear HO_14; clear HO_15; clear HB; have HO_11 := n0_; have HO_12 := n1_; have HO_14 := n2_; have HO_15 := n3_; have HB := n4_; clear n0_ n1_ n2_ n3_ n4_; have p390 : 0 ≤ (0 : Int) := (by omega); have q390 : 0 < (t376.length : Int) := of_decide_eq_true (by first | (with_reducible assumption) | assumption); obtain ⟨ad390, e390, hx390_0⟩ := Kd.at_int (Kd.R_reads' HO_11.out).2.2 0 p390 q390; cases e390; have qi390 : (0 < t376.length) = True := eq_true (by omega); (try rw [show ((0 : Int)).toNat = 0 from rfl] at hx390_0); (try rw [Addr.add_zero'] at hx390_0); replace p390 := eq_true p390; replace q390 := eq_true q390; have p391 : 0 ≤ (2 : Int) := (by omega); have q391 : 2 < (t376.length : Int) := of_decide_eq_true (by first | (with_reducible assumption) | assumption); obtain ⟨ad391, e391, hx391_0⟩ := Kd.at_int (Kd.R_reads' HO_11.out).2.2 2 p391 q391; obtain rfl : ad390 = ad391 := (by injection e391); (try simp only [show (2 : Int).toNat = 2 from rfl, Nat.reduceMul, Nat.reduceEqDiff, Go.Addr.add, ↓reduceIte] at hx391_0); have qi391 : (2 < t376.length) = True := eq_true (by omega); (try rw [show ((2 : Int)).toNat = 2 from rfl] at hx391_0); replace p391 := eq_true p391; replace q391 := eq_true q391; have p392 : 0 ≤ (0 : Int) := (by omega); have q392 : 0 < (t377.length : Int) := of_decide_eq_true (by first | (with_reducible assumption) | assumption); obtain ⟨ad392, e392, hx392_0⟩ := Kd.at_int (Kd.R_reads' HO_12.out).2.2 0 p392 q392; cases e392; have qi392 : (0 < t377.length) = True := eq_true (by omega); (try rw [show ((0 : Int)).toNat = 0 from rfl] at hx392_0); (try rw [Addr.add_zero'] at hx392_0); replace p392 := eq_true p392; replace q392 := eq_true q392; have p393 : 0 ≤ (2 : Int) := (by omega); have q393 : 2 < (t377.length : Int) := of_decide_eq_true (by first | (with_reducible assumption) | assumption); obtain ⟨ad393, e393, hx393_0⟩ := Kd.at_int (Kd.R_reads' HO_12.out).2.2 2 p393 q393; obtain rfl : ad392 = ad393 := (by injection e393); (try simp only [show (2 : Int).toNat = 2 from rfl, Nat.reduceMul, Nat.reduceEqDiff, Go.Addr.add, ↓reduceIte] at hx393_0); have qi393 : (2 < t377.length) = True := eq_true (by omega); (try rw [show ((2 : Int)).toNat = 2 from rfl] at hx393_0); replace p393 := eq_true p393; replace q393 := eq_true q393
            refine start_ (n := 16) (S := fun w' => w'.cell? ad390 = some (.int .i64 (rd t376 0)) ∧ w'.cell? ⟨ad390.block, ad390.off + 2, none⟩ = some (.int .i64 (rd t376 2)) ∧ w'.cell? ad392 = some (.int .i64 (rd t377 0)) ∧ w'.cell? ⟨ad392.block, ad392.off + 2, none⟩ = some (.int .i64 (rd t377 2))) (ds := []) joinMask1 (by kernel_rfl) rfl rfl ⟨hx390_0, hx391_0, hx392_0, hx393_0⟩ (fun hHeld => ?_); refine with_tabW point_Join.tab5 point_Join.bits5 (fun HT_ HW_ => ?_)
            generalize wc.drew = w33 at HO_11 HO_12 HO_14 HO_15 HB hx390_0 hx391_0 hx392_0 hx393_0 hHeld ⊢
            refine pure_ (i := 0) (N := some 42) (v := ?_) (a' := ?_) joinMask3 rfl rfl (any_of HT_.out (by kernel_rfl)) (fun _ _ _ h => h) (Or.inl ⟨by rfl, ?_⟩) ?_ ?_
            rotate_left
            ·intro w'; go_simp
             with_reducible rfl
            rotate_left
            ·simp only [Act.put, List.setIfInBounds_toArray, List.set_cons_zero, List.set_cons_succ, i64_w, i32_w]
             rfl
            refine pure_ (i := 1) (N := some 43) (v := ?_) (a' := ?_) joinMask5 rfl rfl (any_of HT_.out (by kernel_rfl)) (fun _ _ _ h => h) (Or.inl ⟨by rfl, ?_⟩) ?_ ?_
            rotate_left
            ·intro w'; go_simp
             with_reducible rfl
            rotate_left
            ·simp only [Act.put, List.setIfInBounds_toArray, List.set_cons_zero, List.set_cons_succ, i64_w, i32_w]
             rfl
            refine pure_ (i := 3) (N := some 45) (v := ?_) (a' := ?_) joinMask7 rfl rfl (any_of HT_.out (by kernel_rfl)) (fun _ _ _ h => h) (Or.inl ⟨by rfl, ?_⟩) ?_ ?_
            rotate_left
            ·intro w'; go_simp
             with_reducible rfl
            rotate_left
            ·simp only [Act.put, List.setIfInBounds_toArray, List.set_cons_zero, List.set_cons_succ, i64_w, i32_w]
             rfl
            refine pure_ (i := 4) (N := some 46) (v := ?_) (a' := ?_) joinMask9 rfl rfl (any_of HT_.out (by kernel_rfl)) (fun _ _ _ h => h) (Or.inl ⟨by rfl, ?_⟩) ?_ ?_
            rotate_left
            ·intro w'; go_simp
             with_reducible rfl
            rotate_left
            ·simp only [Act.put, List.setIfInBounds_toArray, List.set_cons_zero, List.set_cons_succ, i64_w, i32_w]
             rfl
            refine pure_ (i := 7) (N := some 49) (v := ?_) (a' := ?_) joinMask10 rfl rfl (any_of HT_.out (by kernel_rfl)) (fun _ _ _ h => h) (Or.inl ⟨by rfl, ?_⟩) ?_ ?_
            rotate_left
            ·intro w'; go_simp
             with_reducible rfl
            rotate_left
            ·simp only [Act.put, List.setIfInBounds_toArray, List.set_cons_zero, List.set_cons_succ, i64_w, i32_w]
             rfl
            refine pure_ (i := 8) (N := some 50) (v := ?_) (a' := ?_) joinMask11 rfl rfl (any_of HT_.out (by kernel_rfl)) (fun _ _ _ h => h) (Or.inl ⟨by rfl, ?_⟩) ?_ ?_
            rotate_left
            ·intro w'; go_simp
             with_reducible rfl
            rotate_left
            ·simp only [Act.put, List.setIfInBounds_toArray, List.set_cons_zero, List.set_cons_succ, i64_w, i32_w]
             rfl
            refine pure_ (i := 10) (N := some 52) (v := ?_) (a' := ?_) joinMask12 rfl rfl (any_of HT_.out (by kernel_rfl)) (fun _ _ _ h => h) (Or.inl ⟨by rfl, ?_⟩) ?_ ?_
            rotate_left
            ·intro w'; go_simp
             with_reducible rfl
            rotate_left
            ·simp only [Act.put, List.setIfInBounds_toArray, List.set_cons_zero, List.set_cons_succ, i64_w, i32_w]
             rfl
            refine pure_ (i := 11) (N := some 53) (v := ?_) (a' := ?_) joinMask13 rfl rfl (any_of HT_.out (by kernel_rfl)) (fun _ _ _ h => h) (Or.inl ⟨by rfl, ?_⟩) ?_ ?_
            rotate_left
            ·intro w'; go_simp
             with_reducible rfl
            rotate_left
            ·simp only [Act.put, List.setIfInBounds_toArray, List.set_cons_zero, List.set_cons_succ, i64_w, i32_w]
             rfl
            refine take_ (i := 2) (N := some 44) (v := ?_) (a' := ?_) joinMask28 rfl rfl (take_ofW HT_.out HW_.out (by kernel_rfl)) (fun _ _ _ h => h) (Or.inl ⟨by rfl, ?_⟩) hHeld ?_ ?_
            rotate_left
            ·rintro w' ⟨s0, s1, s2, s3⟩
             go_simp
             with_reducible rfl
            rotate_left
            ·simp only [Act.put, List.setIfInBounds_toArray, List.set_cons_zero, List.set_cons_succ, i64_w, i32_w]
             rfl
            refine take_ (i := 5) (N := some 47) (v := ?_) (a' := ?_) joinMask29 rfl rfl (take_ofW HT_.out HW_.out (by kernel_rfl)) (fun _ _ _ h => h) (Or.inl ⟨by rfl, ?_⟩) hHeld ?_ ?_
            rotate_left
            ·rintro w' ⟨s0, s1, s2, s3⟩
             go_simp
             with_reducible rfl
            rotate_left
            ·simp only [Act.put, List.setIfInBounds_toArray, List.set_cons_zero, List.set_cons_succ, i64_w, i32_w]
             rfl
            refine pure_ (i := 6) (N := some 48) (v := ?_) (a' := ?_) joinMask30 rfl rfl (any_of HT_.out (by kernel_rfl)) (fun _ _ _ h => h) (Or.inl ⟨by rfl, ?_⟩) ?_ ?_
            rotate_left
            ·intro w'; go_simp
             with_reducible rfl
            rotate_left
            ·simp only [Act.put, List.setIfInBounds_toArray, List.set_cons_zero, List.set_cons_succ, i64_w, i32_w]
             rfl
            refine pure_ (i := 14) (N := some 17) (v := ?_) (a' := ?_) joinMask31 rfl rfl (any_of HT_.out (by kernel_rfl)) (fun _ _ _ h => h) (Or.inl ⟨by rfl, ?_⟩) ?_ ?_
            rotate_left
            ·intro w'; go_simp
             with_reducible rfl
            rotate_left
            ·simp only [Act.put, List.setIfInBounds_toArray, List.set_cons_zero, List.set_cons_succ, i64_w, i32_w]
             rfl
            refine take_ (i := 9) (N := some 51) (v := ?_) (a' := ?_) joinMask33 rfl rfl (take_ofW HT_.out HW_.out (by kernel_rfl)) (fun _ _ _ h => h) (Or.inl ⟨by rfl, ?_⟩) hHeld ?_ ?_
            rotate_left
            ·rintro w' ⟨s0, s1, s2, s3⟩
             go_simp
             with_reducible rfl
            rotate_left
            ·simp only [Act.put, List.setIfInBounds_toArray, List.set_cons_zero, List.set_cons_succ, i64_w, i32_w]
             rfl
            refine take_ (i := 12) (N := some 54) (v := ?_) (a' := ?_) joinMask34 rfl rfl (take_ofW HT_.out HW_.out (by kernel_rfl)) (fun _ _ _ h => h) (Or.inl ⟨by rfl, ?_⟩) hHeld ?_ ?_
            rotate_left
            ·rintro w' ⟨s0, s1, s2, s3⟩
             go_simp
             with_reducible rfl
            rotate_left
            ·simp only [Act.put, List.setIfInBounds_toArray, List.set_cons_zero, List.set_cons_succ, i64_w, i32_w]
             rfl
            refine pure_ (i := 13) (N := some 55) (v := ?_) (a' := ?_) joinMask35 rfl rfl (any_of HT_.out (by kernel_rfl)) (fun _ _ _ h => h) (Or.inl ⟨by rfl, ?_⟩) ?_ ?_
            rotate_left
            ·intro w'; go_simp
             with_reducible rfl
            rotate_left
            ·simp only [Act.put, List.setIfInBounds_toArray, List.set_cons_zero, List.set_cons_succ, i64_w, i32_w]
             rfl
            refine pure_ (i := 15) (N := some 18) (v := ?_) (a' := ?_) joinMask42 rfl rfl (any_of HT_.out (by kernel_rfl)) (fun _ _ _ h => h) (Or.inl ⟨by rfl, ?_⟩) ?_ ?_
            rotate_left
            ·intro w'; go_simp
             with_reducible rfl
            rotate_left
            ·simp only [Act.put, List.setIfInBounds_toArray, List.set_cons_zero, List.set_cons_succ, i64_w, i32_w]
             rfl
            refine done_ (done_of HT_.out (by kernel_rfl)) ?_
            try go_wp2
            have n0_ := Aside0.mk (Kd.R_drew HO_11.out); have n1_ := Aside0.mk (Kd.R_drew HO_12.out); have n2_ := Aside0.mk (Kd.R_drew HO_14.out); have n3_ := Aside0.mk (Kd.R_drew HO_15.out); have n4_ := Aside0.mk (below_drew1 HB.out); clear HO_11; clear HO_12; clear HO_14; clear HO_15; clear HB; have HO_11 := n0_; have HO_12 := n1_; have HO_14 := n2_; have HO_15 := n3_; have HB := n4_; clear n0_ n1_ n2_ n3_ n4_
            obtain ⟨Ao35, co35, eo35⟩ := Kd.R_slice HO_14.out
            (first | subst eo35 | (injection eo35 with f1_ f2_ f3_; have f4_ := f1_.symm; have f5_ := f3_.symm; clear f1_ f2_ f3_; subst f4_; subst f5_))
            have p395 : 0 ≤ (0 : Int) := (by omega); have q395 : 0 < (t383.length : Int) := of_decide_eq_true (by first | (with_reducible assumption) | assumption); obtain ⟨ad395, e395, hx395_0⟩ := Kd.at_int (Kd.R_reads' HO_14.out).2.2 0 p395 q395; cases e395; have qi395 : (0 < t383.length) = True := eq_true (by omega); (try rw [show ((0 : Int)).toNat = 0 from rfl] at hx395_0); (try rw [Addr.add_zero'] at hx395_0); replace p395 := eq_true p395; replace q395 := eq_true q395; have p396 : 0 ≤ (1 : Int) := (by omega); have q396 : 1 < (t383.length : Int) := of_decide_eq_true (by first | (with_reducible assumption) | assumption); obtain ⟨ad396, e396, hx396_0⟩ := Kd.at_int (Kd.R_reads' HO_14.out).2.2 1 p396 q396; obtain rfl : ad395 = ad396 := (by injection e396); (try simp only [show (1 : Int).toNat = 1 from rfl, Nat.reduceMul, Nat.reduceEqDiff, Go.Addr.add, ↓reduceIte] at hx396_0); have qi396 : (1 < t383.length) = True := eq_true (by omega); (try rw [show ((1 : Int)).toNat = 1 from rfl] at hx396_0); replace p396 := eq_true p396; replace q396 := eq_true q396
            obtain ⟨Ao36, co36, eo36⟩ := Kd.R_slice HO_15.out
            (first | subst eo36 | (injection eo36 with f1_ f2_ f3_; have f4_ := f1_.symm; have f5_ := f3_.symm; clear f1_ f2_ f3_; subst f4_; subst f5_))
            have p398 : 0 ≤ (0 : Int) := (by omega); have q398 : 0 < (t384.length : Int) := of_decide_eq_true (by first | (with_reducible assumption) | assumption); obtain ⟨ad398, e398, hx398_0⟩ := Kd.at_int (Kd.R_reads' HO_15.out).2.2 0 p398 q398; cases e398; have qi398 : (0 < t384.length) = True := eq_true (by omega); (try rw [show ((0 : Int)).toNat = 0 from rfl] at hx398_0); (try rw [Addr.add_zero'] at hx398_0); replace p398 := eq_true p398; replace q398 := eq_true q398; have p399 : 0 ≤ (1 : Int) := (by omega); have q399 : 1 < (t384.length : Int) := of_decide_eq_true (by first | (with_reducible assumption) | assumption); obtain ⟨ad399, e399, hx399_0⟩ := Kd.at_int (Kd.R_reads' HO_15.out).2.2 1 p399 q399; obtain rfl : ad398 = ad399 := (by injection e399); (try simp only [show (1 : Int).toNat = 1 from rfl, Nat.reduceMul, Nat.reduceEqDiff, Go.Addr.add, ↓reduceIte] at hx399_0); have qi399 : (1 < t384.length) = True := eq_true (by omega); (try rw [show ((1 : Int)).toNat = 1 from rfl] at hx399_0); replace p399 := eq_true p399; replace q399 := eq_true q399
            refine start_ (n := 25) (S := fun w' => w'.cell? ad395 = some (.int .i64 (rd t383 0)) ∧ w'.cell? ⟨ad395.block, ad395.off + 1, none⟩ = some (.int .i64 (rd t383 1)) ∧ w'.cell? ad398 = some (.int .i64 (rd t384 0)) ∧ w'.cell? ⟨ad398.block, ad398.off + 1, none⟩ = some (.int .i64 (rd t384 1))) (ds := []) joinMask0 (by kernel_rfl) rfl rfl ⟨hx395_0, hx396_0, hx398_0, hx399_0⟩ (fun hHeld => ?_); refine with_tabW point_Join.tab6 point_Join.bits6 (fun HT_ HW_ => ?_)
            generalize w33.drew = w34 at HO_11 HO_12 HO_14 HO_15 HB hx395_0 hx396_0 hx398_0 hx399_0 hHeld ⊢
            refine pure_ (i := 0) (N := some 56) (v := ?_) (a' := ?_) joinMask2 rfl rfl (any_of HT_.out (by kernel_rfl)) (fun _ _ _ h => h) (Or.inl ⟨by rfl, ?_⟩) ?_ ?_
            rotate_left
            ·intro w'; go_simp
             with_reducible rfl
            rotate_left
            ·simp only [Act.put, List.setIfInBounds_toArray, List.set_cons_zero, List.set_cons_succ, i64_w, i32_w]
             rfl
            refine pure_ (i := 1) (N := some 57) (v := ?_) (a' := ?_) joinMask4 rfl rfl (any_of HT_.out (by kernel_rfl)) (fun _ _ _ h => h) (Or.inl ⟨by rfl, ?_⟩) ?_ ?_
            rotate_left
            ·intro w'; go_simp
             with_reducible rfl
            rotate_left
            ·simp only [Act.put, List.setIfInBounds_toArray, List.set_cons_zero, List.set_cons_succ, i64_w, i32_w]
             rfl
            refine pure_ (i := 3) (N := some 59) (v := ?_) (a' := ?_) joinMask6 rfl rfl (any_of HT_.out (by kernel_rfl)) (fun _ _ _ h => h) (Or.inl ⟨by rfl, ?_⟩) ?_ ?_
            rotate_left
            ·intro w'; go_simp
             with_reducible rfl
            rotate_left
            ·simp only [Act.put, List.setIfInBounds_toArray, List.set_cons_zero, List.set_cons_succ, i64_w, i32_w]
             rfl
            refine pure_ (i := 4) (N := some 60) (v := ?_) (a' := ?_) joinMask8 rfl rfl (any_of HT_.out (by kernel_rfl)) (fun _ _ _ h => h) (Or.inl ⟨by rfl, ?_⟩) ?_ ?_
            rotate_left
            ·intro w'; go_simp
             with_reducible rfl
            rotate_left
            ·simp only [Act.put, List.setIfInBounds_toArray, List.set_cons_zero, List.set_cons_succ, i64_w, i32_w]
             rfl
            refine pure_ (i := 6) (N := some 62) (v := ?_) (a' := ?_) joinMask14 rfl rfl (any_of HT_.out (by kernel_rfl)) (fun _ _ _ h => h) (Or.inl ⟨by rfl, ?_⟩) ?_ ?_
            rotate_left
            ·intro w'; go_simp
             with_reducible rfl
            rotate_left
            ·simp only [Act.put, List.setIfInBounds_toArray, List.set_cons_zero, List.set_cons_succ, i64_w, i32_w]
             rfl
            refine pure_ (i := 7) (N := some 63) (v := ?_) (a' := ?_) joinMask15 rfl rfl (any_of HT_.out (by kernel_rfl)) (fun _ _ _ h => h) (Or.inl ⟨by rfl, ?_⟩) ?_ ?_
            rotate_left
            ·intro w'; go_simp
             with_reducible rfl
            rotate_left
            ·simp only [Act.put, List.setIfInBounds_toArray, List.set_cons_zero, List.set_cons_succ, i64_w, i32_w]
             rfl
            refine pure_ (i := 10) (N := some 66) (v := ?_) (a' := ?_) joinMask16 rfl rfl (any_of HT_.out (by kernel_rfl)) (fun _ _ _ h => h) (Or.inl ⟨by rfl, ?_⟩) ?_ ?_
            rotate_left
            ·intro w'; go_simp
             with_reducible rfl
            rotate_left
            ·simp only [Act.put, List.setIfInBounds_toArray, List.set_cons_zero, List.set_cons_succ, i64_w, i32_w]
             rfl
            refine pure_ (i := 12) (N := some 68) (v := ?_) (a' := ?_) joinMask17 rfl rfl (any_of HT_.out (by kernel_rfl)) (fun _ _ _ h => h) (Or.inl ⟨by rfl, ?_⟩) ?_ ?_
            rotate_left
            ·intro w'; go_simp
             with_reducible rfl
            rotate_left
            ·simp only [Act.put, List.setIfInBounds_toArray, List.set_cons_zero, List.set_cons_succ, i64_w, i32_w]
             rfl
            refine pure_ (i := 13) (N := some 69) (v := ?_) (a' := ?_) joinMask18 rfl rfl (any_of HT_.out (by kernel_rfl)) (fun _ _ _ h => h) (Or.inl ⟨by rfl, ?_⟩) ?_ ?_
            rotate_left
            ·intro w'; go_simp
             with_reducible rfl
            rotate_left
            ·simp only [Act.put, List.setIfInBounds_toArray, List.set_cons_zero, List.set_cons_succ, i64_w, i32_w]
             rfl
            refine pure_ (i := 15) (N := some 71) (v := ?_) (a' := ?_) joinMask19 rfl rfl (any_of HT_.out (by kernel_rfl)) (fun _ _ _ h => h) (Or.inl ⟨by rfl, ?_⟩) ?_ ?_
            rotate_left
            ·intro w'; go_simp
             with_reducible rfl
            rotate_left
            ·simp only [Act.put, List.setIfInBounds_toArray, List.set_cons_zero, List.set_cons_succ, i64_w, i32_w]
             rfl
            refine pure_ (i := 16) (N := some 72) (v := ?_) (a' := ?_) joinMask20 rfl rfl (any_of HT_.out (by kernel_rfl)) (fun _ _ _ h => h) (Or.inl ⟨by rfl, ?_⟩) ?_ ?_
            rotate_left
            ·intro w'; go_simp
             with_reducible rfl
            rotate_left
            ·simp only [Act.put, List.setIfInBounds_toArray, List.set_cons_zero, List.set_cons_succ, i64_w, i32_w]
             rfl
            refine pure_ (i := 19) (N := some 75) (v := ?_) (a' := ?_) joinMask21 rfl rfl (any_of HT_.out (by kernel_rfl)) (fun _ _ _ h => h) (Or.inl ⟨by rfl, ?_⟩) ?_ ?_
            rotate_left
            ·intro w'; go_simp
             with_reducible rfl
            rotate_left
            ·simp only [Act.put, List.setIfInBounds_toArray, List.set_cons_zero, List.set_cons_succ, i64_w, i32_w]
             rfl
            refine take_ (i := 5) (N := some 61) (v := ?_) (a' := ?_) joinMask22 rfl rfl (take_ofW HT_.out HW_.out (by kernel_rfl)) (fun _ _ _ h => h) (Or.inl ⟨by rfl, ?_⟩) hHeld ?_ ?_
            rotate_left
            ·rintro w' ⟨s0, s1, s2, s3⟩
             go_simp
             with_reducible rfl
            rotate_left
            ·simp only [Act.put, List.setIfInBounds_toArray, List.set_cons_zero, List.set_cons_succ, i64_w, i32_w]
             rfl
            refine take_ (i := 8) (N := some 64) (v := ?_) (a' := ?_) joinMask23 rfl rfl (take_ofW HT_.out HW_.out (by kernel_rfl)) (fun _ _ _ h => h) (Or.inl ⟨by rfl, ?_⟩) hHeld ?_ ?_
            rotate_left
            ·rintro w' ⟨s0, s1, s2, s3⟩
             go_simp
             with_reducible rfl
            rotate_left
            ·simp only [Act.put, List.setIfInBounds_toArray, List.set_cons_zero, List.set_cons_succ, i64_w, i32_w]
             rfl
            refine pure_ (i := 9) (N := some 65) (v := ?_) (a' := ?_) joinMask24 rfl rfl (any_of HT_.out (by kernel_rfl)) (fun _ _ _ h => h) (Or.inl ⟨by rfl, ?_⟩) ?_ ?_
            rotate_left
            ·intro w'; go_simp
             with_reducible rfl
            rotate_left
            ·simp only [Act.put, List.setIfInBounds_toArray, List.set_cons_zero, List.set_cons_succ, i64_w, i32_w]
             rfl
            refine take_ (i := 14) (N := some 70) (v := ?_) (a' := ?_) joinMask25 rfl rfl (take_ofW HT_.out HW_.out (by kernel_rfl)) (fun _ _ _ h => h) (Or.inl ⟨by rfl, ?_⟩) hHeld ?_ ?_
            rotate_left
            ·rintro w' ⟨s0, s1, s2, s3⟩
             go_simp
             with_reducible rfl
            rotate_left
            ·simp only [Act.put, List.setIfInBounds_toArray, List.set_cons_zero, List.set_cons_succ, i64_w, i32_w]
             rfl
            refine take_ (i := 17) (N := some 73) (v := ?_) (a' := ?_) joinMask26 rfl rfl (take_ofW HT_.out HW_.out (by kernel_rfl)) (fun _ _ _ h => h) (Or.inl ⟨by rfl, ?_⟩) hHeld ?_ ?_
            rotate_left
            ·rintro w' ⟨s0, s1, s2, s3⟩
             go_simp
             with_reducible rfl
            rotate_left
            ·simp only [Act.put, List.setIfInBounds_toArray, List.set_cons_zero, List.set_cons_succ, i64_w, i32_w]
             rfl
            refine pure_ (i := 18) (N := some 74) (v := ?_) (a' := ?_) joinMask27 rfl rfl (any_of HT_.out (by kernel_rfl)) (fun _ _ _ h => h) (Or.inl ⟨by rfl, ?_⟩) ?_ ?_
            rotate_left
            ·intro w'; go_simp
             with_reducible rfl
            rotate_left
            ·simp only [Act.put, List.setIfInBounds_toArray, List.set_cons_zero, List.set_cons_succ, i64_w, i32_w]
             rfl
            refine one_ (i := 2) (N := some 58) joinMask32 rfl rfl (one_of HT_.out (by kernel_rfl)) (by decide) (fun K hK => ?_)
            refine goes_ Try.func35 (by kernel_rfl) rfl #[.int .i64 ji19, .int .i64 ji22] (by rfl) rfl rfl (by (try simp only [List.map_toArray, List.map_cons, List.map_nil]); first | done | (simp only [hji19, hji22]; rfl) | rfl | (simp only [List.length_drop, List.length_take]; rfl)) ?_
            with_reducible refine (point_Make.calls ji19 ji22 t394 _ A23.out).mono ?_
            rintro e w' ⟨rfl, ⟨nd, rfl⟩⟩
            refine ⟨_, rfl, ?_⟩
            refine hK.out _ _ ⟨hHeld.1, hHeld.2.1, hHeld.2.2.1, hHeld.2.2.2⟩ (fun hHeld => ?_)
            clear hK K
            refine norm_ (a' := ?_) ?_ ?_
            rotate_left
            ·show Act.put _ (some 58) _ = _
             simp only [Act.put, List.setIfInBounds_toArray, List.set_cons_zero, List.set_cons_succ, i64_w, i32_w]
             rfl
            refine one_ (i := 11) (N := some 67) joinMask36 rfl rfl (one_of HT_.out (by kernel_rfl)) (by decide) (fun K hK => ?_)
            refine goes_ Try.func39 (by kernel_rfl) rfl #[.int .i64 ji26, .int .i64 ji19] (by rfl) rfl rfl (by (try simp only [List.map_toArray, List.map_cons, List.map_nil]); first | done | (simp only [hji19, hji26]; rfl) | rfl | (simp only [List.length_drop, List.length_take]; rfl)) ?_
            with_reducible refine (fixed_Minus.calls ji26 ji19 t397 _ A27.out).mono ?_
            rintro e w37 ⟨rfl, hb⟩
            have HS0_ := (hb.cell (World.block_lt_of_cell? _ _ (hHeld.1))).trans (hHeld.1)
            have HS1_ := (hb.cell (World.block_lt_of_cell? _ _ (hHeld.2.1))).trans (hHeld.2.1)
            have HS2_ := (hb.cell (World.block_lt_of_cell? _ _ (hHeld.2.2.1))).trans (hHeld.2.2.1)
            have HS3_ := (hb.cell (World.block_lt_of_cell? _ _ (hHeld.2.2.2))).trans (hHeld.2.2.2)
            refine ⟨_, rfl, ?_⟩
            have n0_ := Aside0.mk (Kd.R_below (by (with_reducible repeat (first | apply Kd.R_alloc | apply Kd.R_drewN | apply Kd.R_drew)); exact HO_11.out) hb)
            have n1_ := Aside0.mk (Kd.R_below (by (with_reducible repeat (first | apply Kd.R_alloc | apply Kd.R_drewN | apply Kd.R_drew)); exact HO_12.out) hb)
            have n2_ := Aside0.mk (Kd.R_below (by (with_reducible repeat (first | apply Kd.R_alloc | apply Kd.R_drewN | apply Kd.R_drew)); exact HO_14.out) hb)
            have n3_ := Aside0.mk (Kd.R_below (by (with_reducible repeat (first | apply Kd.R_alloc | apply Kd.R_drewN | apply Kd.R_drew)); exact HO_15.out) hb)
            have n4_ := Aside0.mk (below_step (by repeat (first | (with_reducible first | exact HB.out | apply below_alloc | apply pw_below_drewN | apply below_drew1) | exact HB.out)) hb); clear HO_11; clear HO_12; clear HO_14; clear HO_15; clear HB; have HO_11 := n0_; have HO_12 := n1_; have HO_14 := n2_; have HO_15 := n3_; have HB := n4_; clear n0_ n1_ n2_ n3_ n4_
            (try clear hb)
            (try clear hb2)
            (try clear hk)
            (try clear hi)
            refine hK.out _ _ ⟨HS0_, HS1_, HS2_, HS3_⟩ (fun hHeld => ?_)
            clear hK K
            refine norm_ (a' := ?_) ?_ ?_
            rotate_left
            ·show Act.put _ (some 67) _ = _
             simp only [Act.put, List.setIfInBounds_toArray, List.set_cons_zero, List.set_cons_succ, i64_w, i32_w]
             rfl
            refine one_ (i := 20) (N := some 76) joinMask37 rfl rfl (one_of HT_.out (by kernel_rfl)) (by decide) (fun K hK => ?_)
            refine goes_ Try.func39 (by kernel_rfl) rfl #[.int .i64 ji30, .int .i64 ji22] (by rfl) rfl rfl (by (try simp only [List.map_toArray, List.map_cons, List.map_nil]); first | done | (simp only [hji22, hji30]; rfl) | rfl | (simp only [List.length_drop, List.length_take]; rfl)) ?_
            with_reducible refine (fixed_Minus.calls ji30 ji22 t400 _ A31.out).mono ?_
            rintro e w38 ⟨rfl, hb⟩
            have HS0_ := (hb.cell (World.block_lt_of_cell? _ _ (hHeld.1))).trans (hHeld.1)
            have HS1_ := (hb.cell (World.block_lt_of_cell? _ _ (hHeld.2.1))).trans (hHeld.2.1)
            have HS2_ := (hb.cell (World.block_lt_of_cell? _ _ (hHeld.2.2.1))).trans (hHeld.2.2.1)
            have HS3_ := (hb.cell (World.block_lt_of_cell? _ _ (hHeld.2.2.2))).trans (hHeld.2.2.2)
            refine ⟨_, rfl, ?_⟩
            have n0_ := Aside0.mk (Kd.R_below (by (with_reducible repeat (first | apply Kd.R_alloc | apply Kd.R_drewN | apply Kd.R_drew)); exact HO_11.out) hb)
            have n1_ := Aside0.mk (Kd.R_below (by (with_reducible repeat (first | apply Kd.R_alloc | apply Kd.R_drewN | apply Kd.R_drew)); exact HO_12.out) hb)
            have n2_ := Aside0.mk (Kd.R_below (by (with_reducible repeat (first | apply Kd.R_alloc | apply Kd.R_drewN | apply Kd.R_drew)); exact HO_14.out) hb)
            have n3_ := Aside0.mk (Kd.R_below (by (with_reducible repeat (first | apply Kd.R_alloc | apply Kd.R_drewN | apply Kd.R_drew)); exact HO_15.out) hb)
            have n4_ := Aside0.mk (below_step (by repeat (first | (with_reducible first | exact HB.out | apply below_alloc | apply pw_below_drewN | apply below_drew1) | exact HB.out)) hb); clear HO_11; clear HO_12; clear HO_14; clear HO_15; clear HB; have HO_11 := n0_; have HO_12 := n1_; have HO_14 := n2_; have HO_15 := n3_; have HB := n4_; clear n0_ n1_ n2_ n3_ n4_
            (try clear hb)
            (try clear hb2)
            (try clear hk)
            (try clear hi)
            refine hK.out _ _ ⟨HS0_, HS1_, HS2_, HS3_⟩ (fun hHeld => ?_)
            clear hK K
            refine norm_ (a' := ?_) ?_ ?_
            rotate_left
            ·show Act.put _ (some 76) _ = _
             simp only [Act.put, List.setIfInBounds_toArray, List.set_cons_zero, List.set_cons_succ, i64_w, i32_w]
             rfl
            refine one_ (i := 21) (N := some 77) joinMask38 rfl rfl (one_of HT_.out (by kernel_rfl)) (by decide) (fun K hK => ?_)
            refine goes_ Try.func35 (by kernel_rfl) rfl #[.int .i64 t397, .int .i64 t400] (by rfl) rfl rfl (by (try simp only [List.map_toArray, List.map_cons, List.map_nil]); first | done | rfl | (simp only [List.length_drop, List.length_take]; rfl)) ?_
            with_reducible refine (point_Make.calls t397 t400 t401 _ A32.out).mono ?_
            rintro e w' ⟨rfl, ⟨nd, rfl⟩⟩
            refine ⟨_, rfl, ?_⟩
            refine hK.out _ _ ⟨hHeld.1, hHeld.2.1, hHeld.2.2.1, hHeld.2.2.2⟩ (fun hHeld => ?_)
            clear hK K
            refine norm_ (a' := ?_) ?_ ?_
            rotate_left
            ·show Act.put _ (some 77) _ = _
             simp only [Act.put, List.setIfInBounds_toArray, List.set_cons_zero, List.set_cons_succ, i64_w, i32_w]
             rfl
            refine pure_ (i := 22) (N := some 8) (v := ?_) (a' := ?_) joinMask39 rfl rfl (any_of HT_.out (by kernel_rfl)) (fun _ _ _ h => h) (Or.inl ⟨by rfl, ?_⟩) ?_ ?_
            rotate_left
            ·intro w'; go_simp
             with_reducible rfl
            rotate_left
            ·simp only [Act.put, List.setIfInBounds_toArray, List.set_cons_zero, List.set_cons_succ, i64_w, i32_w]
             rfl
            refine pure_ (i := 23) (N := some 9) (v := ?_) (a' := ?_) joinMask40 rfl rfl (any_of HT_.out (by kernel_rfl)) (fun _ _ _ h => h) (Or.inl ⟨by rfl, ?_⟩) ?_ ?_
            rotate_left
            ·intro w'; go_simp
             with_reducible rfl
            rotate_left
            ·simp only [Act.put, List.setIfInBounds_toArray, List.set_cons_zero, List.set_cons_succ, i64_w, i32_w]
             rfl
            refine pure_ (i := 24) (N := some 10) (v := ?_) (a' := ?_) joinMask41 rfl rfl (any_of HT_.out (by kernel_rfl)) (fun _ _ _ h => h) (Or.inl ⟨by rfl, ?_⟩) ?_ ?_
            rotate_left
            ·intro w'; go_simp
             with_reducible rfl
            rotate_left
            ·simp only [Act.put, List.setIfInBounds_toArray, List.set_cons_zero, List.set_cons_succ, i64_w, i32_w]
             rfl
            refine done_ (done_of HT_.out (by kernel_rfl)) ?_
            try go_wp2
            go_ret3
            exact ⟨by first | rfl | (simp [errW_none, errW_some] <;> rfl) | (simp only [← hji19, ← hji22, ← hji26, ← hji30]; first | rfl | (simp [errW_none, errW_some] <;> rfl)) | (simp [*, errW_none, errW_some] <;> rfl), by repeat (first | (with_reducible first | exact HB.out | apply below_alloc | apply pw_below_drewN | apply below_drew1) | exact HB.out)⟩
           ·rw [if_neg c29] at H
            exact absurd H (by simp)
          ·rw [if_neg c28] at H
           exact absurd H (by simp)
         ·rw [if_neg c25] at H
          exact absurd H (by simp)
        ·rw [if_neg c24] at H
         exact absurd H (by simp)
       ·rw [if_neg c21] at H
        exact absurd H (by simp)
      ·rw [if_neg c20] at H
       exact absurd H (by simp)
     ·rw [if_neg c18] at H
      exact absurd H (by simp)
    ·rw [if_neg c17] at H
     exact absurd H (by simp)

end Go.Proofs.Ytdpeeinmckohgaa.PC
