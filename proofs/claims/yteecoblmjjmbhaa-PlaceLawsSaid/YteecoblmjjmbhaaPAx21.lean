-- Written by wprint.py, a program of this session's, over the kit's print.
import Derived.Test.YteecoblmjjmbhaaPAx20
namespace Go.Proofs.Yteecoblmjjmbhaa.PA
open Go.RowKit Go.Proofs.YteecoblmjjmbhaaW.PrintWords Go.Proofs.YteecoblmjjmbhaaW.PrintLast Go.Proofs.YteecoblmjjmbhaaW.PrintMore
attribute [local go_sem] max2_int min2_int max_two min_two max_three min_three max_four min_four   -- for this text's walks alone
set_option linter.unusedVariables false
set_option linter.unusedSimpArgs false


set_option maxHeartbeats 8000000 in
set_option maxRecDepth 100000 in
theorem pLaws.calls (k : Nat) (A0 : Option Addr) (c0 : Nat) (l0 : List (S27)) (r : Bool) (w : World) (hr0 : Kd.C k27 w A0 l0.length l0) (hc0 : l0.length ≤ c0) (h : pLaws.f k l0 = some r) :
  Calls Try.prog 11 #[.slice A0 l0.length c0] w fun e w' => e = .returned (.bool r) ∧ Below w.heap.size w w' := by
 have hu42 := Try.underlying42
 have HR0 := Aside0.mk hr0; have HC0 := Aside0.mk hc0; clear hr0 hc0; have HB := Aside0.mk (Below.refl w.heap.size w)
 have H : (pLaws.l0 k l0 0) = some r := h
 clear h
 have H' := Aside0.mk H
 clear H
 go_enter Try.func11, Try.ntmps11
 go_wp2
 go_loopg [3] k (fun kq v3 w' => ∃ (x3_1 : Int), v3 = .int .i64 x3_1 ∧ Aside0 (pLaws.l0 kq l0 x3_1 = some r) ∧ Aside0 (kq ≤ k) ∧ Aside0 (Below w.heap.size w w'))
 case atStart => exact ⟨(0), (by first | rfl | (simp; done) | (simp [*]; done)), H', ⟨Nat.le_refl _⟩, ⟨by repeat (first | (with_reducible first | exact HB.out | apply below_alloc | apply pw_below_drewN | apply below_drew1) | exact HB.out)⟩⟩
 case round => as_aux_lemma =>
  clear H'
  try clear c1
  obtain ⟨x3_1, rfl, HA, HK1, HB⟩ := hrel
  cases gk with
  | zero => exact absurd HA.out (by simp [pLaws.l0])
  | succ k1 =>
   have H := HA.out
   clear HA
   simp only [pLaws.l0] at H
   have HC2 := Aside0.mk H; clear H
   go_upto_region 2 with (fail)
   go_cut [25] (fun v25 wc => ∃ (kq : Nat) (x25_1 : Bool), v25 = .bool x25_1 ∧ Aside0 (pLaws.j1 kq l0 x3_1 x25_1 = some r) ∧ Aside0 (kq ≤ k1) ∧ Aside0 (Below w.heap.size w wc))
   case first => as_aux_lemma =>
    have H := HC2.out
    clear HC2
    by_cases c3 : x3_1 < (l0.length : Int)
    ·rw [if_pos c3] at H
     have c3b0 : decide (x3_1 < (l0.length : Int)) = true := decide_eq_true c3
     clear c3
     (first | rw [c3b0] | (simp only [i64_w, i32_w]; rw [c3b0]) | skip)
     have H' := Aside0.mk H
     clear H
     go_wp2
     go_meet
     case rel => exact ⟨_, (decide (x3_1 < 12)), (by first | rfl | (simp; done) | (simp [*]; done)), H', ⟨by have := HK1.out; first | omega | exact Nat.le_refl _⟩, ⟨by repeat (first | (with_reducible first | exact HB.out | apply below_alloc | apply pw_below_drewN | apply below_drew1) | exact HB.out)⟩⟩
    ·rw [if_neg c3] at H
     have c3b0 : decide (x3_1 < (l0.length : Int)) = false := decide_eq_false c3
     clear c3
     (first | rw [c3b0] | (simp only [i64_w, i32_w]; rw [c3b0]) | skip)
     have H' := Aside0.mk H
     clear H
     go_wp2
     go_meet
     case rel => exact ⟨_, (false), (by first | rfl | (simp; done) | (simp [*]; done)), H', ⟨by have := HK1.out; first | omega | exact Nat.le_refl _⟩, ⟨by repeat (first | (with_reducible first | exact HB.out | apply below_alloc | apply pw_below_drewN | apply below_drew1) | exact HB.out)⟩⟩
   case rest => as_aux_lemma =>
    clear HC2
    try clear c1
    try clear p2
    try clear c3
    try clear c3b0
    obtain ⟨kq, x25_1, rfl, HA, HJ1, HB⟩ := hcut
    cases kq with
    | zero => exact absurd HA.out (by simp [pLaws.j1])
    | succ kj1 =>
     have H := HA.out
     clear HA
     simp only [pLaws.j1] at H
     by_cases c4 : x25_1 = true
     ·as_aux_lemma =>
      subst c4
      have H1 : (pLaws.l1 kj1 l0 x3_1 ([] : List Int) 0 0) = some r := by rw [if_pos rfl] at H; exact H
      clear H; have H := H1; clear H1
      have H' := Aside0.mk H
      clear H
      go_wp2
      go_loopg [4, 5, 6] kj1 (fun kq v4 v5 v6 w' => ∃ (x4_3 : List Int) (x5_3 : Int) (x6_3 : Int), v5 = .int .i64 x5_3 ∧ v6 = .int .i64 x6_3 ∧ Aside0 (pLaws.l1 kq l0 x3_1 x4_3 x5_3 x6_3 = some r) ∧ Aside0 (kq ≤ kj1) ∧ Aside0 (Kd.R (Kd.int .i64) 3 w' w.heap.size (fun _ => True) v4 x4_3) ∧ Aside0 (Below w.heap.size w w'))
      case atStart => exact ⟨(([] : List Int)), (0), (0), (by first | rfl | (simp; done) | (simp [*]; done)), (by first | rfl | (simp; done) | (simp [*]; done)), H', ⟨Nat.le_refl _⟩, ⟨by first | exact Kd.R_nil _ _ _ _ _ | exact Kd.N_nil _ _ _ _ _ | exact Kd.V_nil _ _ _ _ _ | exact Kd.Q_nil _ _ _ _ _ | exact Kd.S_nil _ _ _ _ _⟩, ⟨by repeat (first | (with_reducible first | exact HB.out | apply below_alloc | apply pw_below_drewN | apply below_drew1) | exact HB.out)⟩⟩
      case round => as_aux_lemma =>
       clear H'
       try clear c1
       try clear p2
       try clear c3
       try clear c3b0
       try clear c4
       try clear p2
       obtain ⟨x4_3, x5_3, x6_3, rfl, rfl, HA, HK3, HO_4, HB⟩ := hrel
       cases gk with
       | zero => exact absurd HA.out (by simp [pLaws.l1])
       | succ k3 =>
        have H := HA.out
        clear HA
        simp only [pLaws.l1] at H
        have HC5 := Aside0.mk H; clear H
        go_upto_region 7 with (fail)
        go_cut [39] (fun v39 wc => ∃ (kq : Nat) (x39_4 : Bool), v39 = .bool x39_4 ∧ Aside0 (pLaws.j3 kq l0 x3_1 x4_3 x5_3 x6_3 x39_4 = some r) ∧ Aside0 (kq ≤ k3) ∧ Aside0 (Kd.R (Kd.int .i64) 3 wc w.heap.size (fun _ => True) u4 x4_3) ∧ Aside0 (Below w.heap.size w wc))
        case first => as_aux_lemma =>
         have H := HC5.out
         clear HC5
         by_cases c6 : 0 ≤ x3_1
         ·rw [if_pos c6] at H
          have c6b0 : decide (0 ≤ x3_1) = true := decide_eq_true c6
          clear c6
          (first | rw [c6b0] | (simp only [i64_w, i32_w]; rw [c6b0]) | skip)
          by_cases c7 : x3_1 < (l0.length : Int)
          ·rw [if_pos c7] at H
           have c7b0 : decide (x3_1 < (l0.length : Int)) = true := decide_eq_true c7
           clear c7
           by_cases c8 : x6_3 < (((rd_T27 l0 x3_1).f0).length : Int)
           ·rw [if_pos c8] at H
            have c8b0 : decide (x6_3 < (((rd_T27 l0 x3_1).f0).length : Int)) = true := decide_eq_true c8
            clear c8
            have H' := Aside0.mk H
            clear H; have p170 : 0 ≤ (x3_1 : Int) := of_decide_eq_true (by first | (with_reducible assumption) | assumption); have q170 : x3_1 < (l0.length : Int) := of_decide_eq_true (by first | (with_reducible assumption) | assumption)
            obtain ⟨ad170, A170_0, c170_0, e170, hx170_0, hx170_1, hx170_2, hx170_3, hl170_0, hi170_0⟩ := at_T27 HR0.out x3_1 p170 q170
            cases e170
            replace hx170_0 := (HB.out.cell (World.block_lt_of_cell? w _ hx170_0)).trans hx170_0
            replace hx170_1 := (HB.out.cell (World.block_lt_of_cell? w _ hx170_1)).trans hx170_1
            replace hx170_2 := (HB.out.cell (World.block_lt_of_cell? w _ hx170_2)).trans hx170_2
            replace hx170_3 := (HB.out.cell (World.block_lt_of_cell? w _ hx170_3)).trans hx170_3
            have HR170_0 := Aside0.mk hi170_0; have HC170_0 := Aside0.mk hl170_0; clear hi170_0 hl170_0; replace p170 := eq_true p170; replace q170 := eq_true q170
            go_wp2
            go_meet
            case rel => exact ⟨_, (decide (x6_3 < 20)), (by first | rfl | (simp; done) | (simp [*]; done)), H', ⟨by have := HK1.out; have := HJ1.out; have := HK3.out; first | omega | exact Nat.le_refl _⟩, ⟨by (with_reducible repeat (first | apply Kd.R_alloc | apply Kd.R_drewN | apply Kd.R_drew)); exact HO_4.out⟩, ⟨by repeat (first | (with_reducible first | exact HB.out | apply below_alloc | apply pw_below_drewN | apply below_drew1) | exact HB.out)⟩⟩
           ·rw [if_neg c8] at H
            have c8b0 : decide (x6_3 < (((rd_T27 l0 x3_1).f0).length : Int)) = false := decide_eq_false c8
            clear c8
            have H' := Aside0.mk H
            clear H; have p170 : 0 ≤ (x3_1 : Int) := of_decide_eq_true (by first | (with_reducible assumption) | assumption); have q170 : x3_1 < (l0.length : Int) := of_decide_eq_true (by first | (with_reducible assumption) | assumption)
            obtain ⟨ad170, A170_0, c170_0, e170, hx170_0, hx170_1, hx170_2, hx170_3, hl170_0, hi170_0⟩ := at_T27 HR0.out x3_1 p170 q170
            cases e170
            replace hx170_0 := (HB.out.cell (World.block_lt_of_cell? w _ hx170_0)).trans hx170_0
            replace hx170_1 := (HB.out.cell (World.block_lt_of_cell? w _ hx170_1)).trans hx170_1
            replace hx170_2 := (HB.out.cell (World.block_lt_of_cell? w _ hx170_2)).trans hx170_2
            replace hx170_3 := (HB.out.cell (World.block_lt_of_cell? w _ hx170_3)).trans hx170_3
            have HR170_0 := Aside0.mk hi170_0; have HC170_0 := Aside0.mk hl170_0; clear hi170_0 hl170_0; replace p170 := eq_true p170; replace q170 := eq_true q170
            go_wp2
            go_meet
            case rel => exact ⟨_, (false), (by first | rfl | (simp; done) | (simp [*]; done)), H', ⟨by have := HK1.out; have := HJ1.out; have := HK3.out; first | omega | exact Nat.le_refl _⟩, ⟨by (with_reducible repeat (first | apply Kd.R_alloc | apply Kd.R_drewN | apply Kd.R_drew)); exact HO_4.out⟩, ⟨by repeat (first | (with_reducible first | exact HB.out | apply below_alloc | apply pw_below_drewN | apply below_drew1) | exact HB.out)⟩⟩
          ·rw [if_neg c7] at H
           exact absurd H (by simp)
         ·rw [if_neg c6] at H
          exact absurd H (by simp)
        case rest => as_aux_lemma =>
         clear HC5
         try clear c1
         try clear p1
         try clear q1
         try clear hx1
         try clear p2
         try clear c3
         try clear c3b0
         try clear c4
         try clear c6
         try clear c6b0
         try clear c7
         try clear c7b0
         try clear c8
         try clear c8b0
         try clear hx170_0
         try clear hx170_1
         try clear hx170_2
         try clear hx170_3
         try clear p170
         try clear p2
         try clear q170
         obtain ⟨kq, x39_4, rfl, HA, HJ4, HO_4, HB⟩ := hcut
         cases kq with
         | zero => exact absurd HA.out (by simp [pLaws.j3])
         | succ kj4 =>
          have H := HA.out
          clear HA
          simp only [pLaws.j3] at H
          by_cases c9 : x39_4 = true
          ·subst c9
           have H1 : (if 0 ≤ x3_1 then (if x3_1 < (l0.length : Int) then (if 0 ≤ x6_3 then (if x6_3 < (((rd_T27 l0 x3_1).f0).length : Int) then ((arraslaw0_Within.f (rd ((rd_T27 l0 x3_1).f0) x6_3) 10000).bind fun t173 => (if x4_3.length < 17592186044416 then ((some (x4_3 ++ [t173] : List Int)).bind fun y174 => (if x6_3 < (y174.length : Int) then (pLaws.l1 kj4 l0 x3_1 y174 (wrap64 (x5_3 + (rd y174 x6_3))) (wrap64 (x6_3 + 1))) else (none))) else (none))) else (none)) else (none)) else (none)) else (none)) = some r := by rw [if_pos rfl] at H; exact H
           clear H; have H := H1; clear H1
           by_cases c10 : 0 ≤ x3_1
           ·rw [if_pos c10] at H
            have c10b0 : decide (0 ≤ x3_1) = true := decide_eq_true c10
            clear c10
            by_cases c11 : x3_1 < (l0.length : Int)
            ·rw [if_pos c11] at H
             have c11b0 : decide (x3_1 < (l0.length : Int)) = true := decide_eq_true c11
             clear c11
             by_cases c12 : 0 ≤ x6_3
             ·rw [if_pos c12] at H
              have c12b0 : decide (0 ≤ x6_3) = true := decide_eq_true c12
              clear c12
              by_cases c13 : x6_3 < (((rd_T27 l0 x3_1).f0).length : Int)
              ·rw [if_pos c13] at H
               have c13b0 : decide (x6_3 < (((rd_T27 l0 x3_1).f0).length : Int)) = true := decide_eq_true c13
               clear c13
               replace H := Option.bind_eq_some_iff.mp H
               obtain ⟨t173, A140, H⟩ := H
               replace H : (if x4_3.length < 17592186044416 then ((some (x4_3 ++ [t173] : List Int)).bind fun y174 => (if x6_3 < (y174.length : Int) then (pLaws.l1 kj4 l0 x3_1 y174 (wrap64 (x5_3 + (rd y174 x6_3))) (wrap64 (x6_3 + 1))) else (none))) else (none)) = some r := H
               have A14 := Aside0.mk A140; clear A140
               by_cases c15 : x4_3.length < 17592186044416
               ·rw [if_pos c15] at H
                have LMc15 := Aside0.mk c15; clear c15
                obtain ⟨y174, hy174⟩ : ∃ y_ : List Int, y_ = (x4_3 ++ [t173]) := ⟨_, rfl⟩
                replace H : (if x6_3 < (y174.length : Int) then (pLaws.l1 kj4 l0 x3_1 y174 (wrap64 (x5_3 + (rd y174 x6_3))) (wrap64 (x6_3 + 1))) else (none)) = some r := by first | (rw [hy174]; with_reducible exact H) | (have H2_ := (Option.bind_some _ _).symm.trans H; rw [hy174]; with_reducible exact H2_) | (have H2_ := (Option.bind_some _ _).symm.trans H; with_reducible exact H2_) | with_reducible exact H | (rw [hy174]; exact H) | exact H
                have Ny174 := Aside0.mk hy174; clear hy174
                by_cases c16 : x6_3 < (y174.length : Int)
                ·rw [if_pos c16] at H
                 have c16b0 : decide (x6_3 < (y174.length : Int)) = true := decide_eq_true c16
                 clear c16
                 have H' := Aside0.mk H
                 clear H; have p171 : 0 ≤ (x3_1 : Int) := of_decide_eq_true (by first | (with_reducible assumption) | assumption); have q171 : x3_1 < (l0.length : Int) := of_decide_eq_true (by first | (with_reducible assumption) | assumption)
                 obtain ⟨ad171, A171_0, c171_0, e171, hx171_0, hx171_1, hx171_2, hx171_3, hl171_0, hi171_0⟩ := at_T27 HR0.out x3_1 p171 q171
                 cases e171
                 replace hx171_0 := (HB.out.cell (World.block_lt_of_cell? w _ hx171_0)).trans hx171_0
                 replace hx171_1 := (HB.out.cell (World.block_lt_of_cell? w _ hx171_1)).trans hx171_1
                 replace hx171_2 := (HB.out.cell (World.block_lt_of_cell? w _ hx171_2)).trans hx171_2
                 replace hx171_3 := (HB.out.cell (World.block_lt_of_cell? w _ hx171_3)).trans hx171_3
                 have HR171_0 := Aside0.mk hi171_0; have HC171_0 := Aside0.mk hl171_0; clear hi171_0 hl171_0; replace p171 := eq_true p171; replace q171 := eq_true q171; have p172 : 0 ≤ (x6_3 : Int) := of_decide_eq_true (by first | (with_reducible assumption) | assumption); have q172 : x6_3 < (((rd_T27 l0 x3_1).f0).length : Int) := of_decide_eq_true (by first | (with_reducible assumption) | assumption); obtain ⟨ad172, e172, hx172_0⟩ := Kd.at_int HR171_0.out x6_3 p172 q172; cases e172
                 replace hx172_0 := (HB.out.cell (World.block_lt_of_cell? w _ hx172_0)).trans hx172_0
                 replace p172 := eq_true p172; replace q172 := eq_true q172
                 go_wp2_with (first | ((with_reducible refine gate_callee (f := 30) rfl ?_); refine goesL_ (some 51) rfl rfl Try.func30 (by kernel_rfl) rfl #[.int .i64 (rd ((rd_T27 l0 x3_1).f0) x6_3), .int .i64 10000] rfl (by (try simp only [List.map_toArray, List.map_cons, List.map_nil]); first | done | rfl | (simp only [List.length_drop, List.length_take]; rfl)) ?_; (with_reducible refine (arraslaw0_Within.calls (rd ((rd_T27 l0 x3_1).f0) x6_3) 10000 t173 _ A14.out).mono ?_); rintro e w' ⟨rfl, ⟨nd, rfl⟩⟩; refine ⟨_, rfl, ?_⟩) | ((with_reducible refine gate_builtin (b := .append) (xs := #[.tmp 42, .tmp 52]) rfl ?_); (try (refine gate_guard (by rfl) ?_; dsimp only)); at_builtin; refine Kd.R_append (Kd.int .i64) (w0 := w) w.heap.size rfl (.tmp 42) (.tmp 52) 25 3 (.int .i64 0) 8 rfl Try.underlying25 info3 rfl (by decide) (by omega) u4 x4_3 t173 [.int .i64 t173] (fun _ => True) (fun _ => False) rfl rfl ?aP (fun _ hk => hk.elim) ?aF ?aO ?aB ?aS ?aL ?_; (case aP => exact rfl); (case aB => exact (by repeat (first | (with_reducible first | exact HB.out | apply below_alloc | apply pw_below_drewN | apply below_drew1) | exact HB.out))); (case aF => exact (fun _ _ => trivial)); (case aO => exact (by (with_reducible repeat (first | apply Kd.R_alloc | apply Kd.R_drewN | apply Kd.R_drew)); exact HO_4.out)); (case aS => exact (below_size (by repeat (first | (with_reducible first | exact HB.out | apply below_alloc | apply pw_below_drewN | apply below_drew1) | exact HB.out)))); (case aL => have := LMc15.out; omega); intro v175 w17 ho hb hg hat; rw [← Ny174.out] at ho; have n0_ := Aside0.mk (hb); have n1_ := Aside0.mk (ho); clear HB; clear HO_4; have HB := n0_; have HO176 := n1_; clear n0_ n1_; clear ho hb hg hat; obtain ⟨Ao18, co18, eo18⟩ := Kd.R_slice HO176.out; subst eo18; have p177 : 0 ≤ (x6_3 : Int) := of_decide_eq_true (by first | (with_reducible assumption) | assumption); have q177 : x6_3 < (y174.length : Int) := of_decide_eq_true (by first | (with_reducible assumption) | assumption); obtain ⟨ad177, e177, hx177_0⟩ := Kd.at_int (Kd.R_reads' HO176.out).2.2 x6_3 p177 q177; cases e177; replace p177 := eq_true p177; replace q177 := eq_true q177))
                 go_roundg kj4
                 case measure => have := HK1.out; have := HJ1.out; have := HK3.out; have := HJ4.out; omega
                 case rel => exact ⟨(y174), (wrap64 (x5_3 + (rd y174 x6_3))), (wrap64 (x6_3 + 1)), (by first | rfl | (simp; done) | (simp [*]; done)), (by first | rfl | (simp; done) | (simp [*]; done)), H', ⟨by have := HK1.out; have := HJ1.out; have := HK3.out; have := HJ4.out; omega⟩, ⟨by (with_reducible repeat (first | apply Kd.R_alloc | apply Kd.R_drewN | apply Kd.R_drew)); exact HO176.out⟩, ⟨by repeat (first | (with_reducible first | exact HB.out | apply below_alloc | apply pw_below_drewN | apply below_drew1) | exact HB.out)⟩⟩
                ·rw [if_neg c16] at H
                 exact absurd H (by simp)
               ·rw [if_neg c15] at H
                exact absurd H (by simp)
              ·rw [if_neg c13] at H
               exact absurd H (by simp)
             ·rw [if_neg c12] at H
              exact absurd H (by simp)
            ·rw [if_neg c11] at H
             exact absurd H (by simp)
           ·rw [if_neg c10] at H
            exact absurd H (by simp)
          ·as_aux_lemma =>
           replace c9 := Bool.eq_false_iff.mpr c9
           subst c9
           have H1 : (if 0 ≤ x3_1 then (if x3_1 < (l0.length : Int) then ((arraslaw0_Within.f ((rd_T27 l0 x3_1).f1) 100).bind fun t179 => (if (x4_3.length : Int) = 0 then (pLaws.l0 kj4 l0 (wrap64 (x3_1 + 1))) else ((arraslaw0_Within.f ((rd_T27 l0 x3_1).f2) 10000).bind fun t181 => (pLaws.l2 kj4 l0 x3_1 x4_3 t179 (x4_3.length : Int) (wrap64 ((wrap64 (x5_3 + (wrap64 (t179 * (wrap64 ((x4_3.length : Int) - 1)))))) + t181)) 0)))) else (none)) else (none)) = some r := by rw [if_neg (show ¬ (false = true) by decide)] at H; exact H
           clear H; have H := H1; clear H1
           by_cases c19 : 0 ≤ x3_1
           ·as_aux_lemma =>
            rw [if_pos c19] at H
            have c19b0 : decide (0 ≤ x3_1) = true := decide_eq_true c19
            clear c19
            by_cases c20 : x3_1 < (l0.length : Int)
            ·as_aux_lemma =>
             rw [if_pos c20] at H
             have c20b0 : decide (x3_1 < (l0.length : Int)) = true := decide_eq_true c20
             clear c20
             replace H := Option.bind_eq_some_iff.mp H
             obtain ⟨t179, A210, H⟩ := H
             replace H : (if (x4_3.length : Int) = 0 then (pLaws.l0 kj4 l0 (wrap64 (x3_1 + 1))) else ((arraslaw0_Within.f ((rd_T27 l0 x3_1).f2) 10000).bind fun t181 => (pLaws.l2 kj4 l0 x3_1 x4_3 t179 (x4_3.length : Int) (wrap64 ((wrap64 (x5_3 + (wrap64 (t179 * (wrap64 ((x4_3.length : Int) - 1)))))) + t181)) 0))) = some r := H
             have A21 := Aside0.mk A210; clear A210
             by_cases c22 : (x4_3.length : Int) = 0
             ·rw [if_pos c22] at H
              have c22b0 : ((x4_3.length : Int) == 0) = true := beq_iff_eq.mpr c22
              have c22b1 : ((x4_3.length : Int) != 0) = false := bne_eq_false_iff_eq.mpr c22
              clear c22
              have H' := Aside0.mk H
              clear H; have p178 : 0 ≤ (x3_1 : Int) := of_decide_eq_true (by first | (with_reducible assumption) | assumption); have q178 : x3_1 < (l0.length : Int) := of_decide_eq_true (by first | (with_reducible assumption) | assumption)
              obtain ⟨ad178, A178_0, c178_0, e178, hx178_0, hx178_1, hx178_2, hx178_3, hl178_0, hi178_0⟩ := at_T27 HR0.out x3_1 p178 q178
              cases e178
              replace hx178_0 := (HB.out.cell (World.block_lt_of_cell? w _ hx178_0)).trans hx178_0
              replace hx178_1 := (HB.out.cell (World.block_lt_of_cell? w _ hx178_1)).trans hx178_1
              replace hx178_2 := (HB.out.cell (World.block_lt_of_cell? w _ hx178_2)).trans hx178_2
              replace hx178_3 := (HB.out.cell (World.block_lt_of_cell? w _ hx178_3)).trans hx178_3
              have HR178_0 := Aside0.mk hi178_0; have HC178_0 := Aside0.mk hl178_0; clear hi178_0 hl178_0; replace p178 := eq_true p178; replace q178 := eq_true q178
              go_wp2_with (first | ((with_reducible refine gate_callee (f := 30) rfl ?_); refine goesL_ (some 65) rfl rfl Try.func30 (by kernel_rfl) rfl #[.int .i64 ((rd_T27 l0 x3_1).f1), .int .i64 100] rfl (by (try simp only [List.map_toArray, List.map_cons, List.map_nil]); first | done | rfl | (simp only [List.length_drop, List.length_take]; rfl)) ?_; (with_reducible refine (arraslaw0_Within.calls ((rd_T27 l0 x3_1).f1) 100 t179 _ A21.out).mono ?_); rintro e w' ⟨rfl, ⟨nd, rfl⟩⟩; refine ⟨_, rfl, ?_⟩; obtain ⟨Ao23, co23, eo23⟩ := Kd.R_slice HO_4.out; subst eo23))
              go_roundg kj4
              case measure => have := HK1.out; have := HJ1.out; have := HK3.out; have := HJ4.out; omega
              case rel => exact ⟨(wrap64 (x3_1 + 1)), (by first | rfl | (simp; done) | (simp [*]; done)), H', ⟨by have := HK1.out; have := HJ1.out; have := HK3.out; have := HJ4.out; omega⟩, ⟨by repeat (first | (with_reducible first | exact HB.out | apply below_alloc | apply pw_below_drewN | apply below_drew1) | exact HB.out)⟩⟩
             ·as_aux_lemma =>
              rw [if_neg c22] at H
              have c22b0 : ((x4_3.length : Int) == 0) = false := beq_eq_false_iff_ne.mpr c22
              have c22b1 : ((x4_3.length : Int) != 0) = true := bne_iff_ne.mpr c22
              have c22b2 : ¬ (x4_3 = []) := fun h_ => c22 (by rw [h_]; rfl)
              replace H := Option.bind_eq_some_iff.mp H
              obtain ⟨t181, A240, H⟩ := H
              replace H : (pLaws.l2 kj4 l0 x3_1 x4_3 t179 (x4_3.length : Int) (wrap64 ((wrap64 (x5_3 + (wrap64 (t179 * (wrap64 ((x4_3.length : Int) - 1)))))) + t181)) 0) = some r := H
              have A24 := Aside0.mk A240; clear A240
              have H' := Aside0.mk H
              clear H; have p178 : 0 ≤ (x3_1 : Int) := of_decide_eq_true (by first | (with_reducible assumption) | assumption); have q178 : x3_1 < (l0.length : Int) := of_decide_eq_true (by first | (with_reducible assumption) | assumption)
              obtain ⟨ad178, A178_0, c178_0, e178, hx178_0, hx178_1, hx178_2, hx178_3, hl178_0, hi178_0⟩ := at_T27 HR0.out x3_1 p178 q178
              cases e178
              replace hx178_0 := (HB.out.cell (World.block_lt_of_cell? w _ hx178_0)).trans hx178_0
              replace hx178_1 := (HB.out.cell (World.block_lt_of_cell? w _ hx178_1)).trans hx178_1
              replace hx178_2 := (HB.out.cell (World.block_lt_of_cell? w _ hx178_2)).trans hx178_2
              replace hx178_3 := (HB.out.cell (World.block_lt_of_cell? w _ hx178_3)).trans hx178_3
              have HR178_0 := Aside0.mk hi178_0; have HC178_0 := Aside0.mk hl178_0; clear hi178_0 hl178_0; replace p178 := eq_true p178; replace q178 := eq_true q178
              go_wp2_with (first | ((with_reducible refine gate_callee (f := 30) rfl ?_); refine goesL_ (some 65) rfl rfl Try.func30 (by kernel_rfl) rfl #[.int .i64 ((rd_T27 l0 x3_1).f1), .int .i64 100] rfl (by (try simp only [List.map_toArray, List.map_cons, List.map_nil]); first | done | rfl | (simp only [List.length_drop, List.length_take]; rfl)) ?_; (with_reducible refine (arraslaw0_Within.calls ((rd_T27 l0 x3_1).f1) 100 t179 _ A21.out).mono ?_); rintro e w' ⟨rfl, ⟨nd, rfl⟩⟩; refine ⟨_, rfl, ?_⟩; obtain ⟨Ao25, co25, eo25⟩ := Kd.R_slice HO_4.out; subst eo25; have p180 : 0 ≤ (x3_1 : Int) := of_decide_eq_true (by first | (with_reducible assumption) | assumption); have q180 : x3_1 < (l0.length : Int) := of_decide_eq_true (by first | (with_reducible assumption) | assumption); obtain ⟨ad180, A180_0, c180_0, e180, hx180_0, hx180_1, hx180_2, hx180_3, hl180_0, hi180_0⟩ := at_T27 HR0.out x3_1 p180 q180; obtain rfl : ad178 = ad180 := (by injection e180); replace hx180_0 := (HB.out.cell (World.block_lt_of_cell? w _ hx180_0)).trans hx180_0; replace hx180_1 := (HB.out.cell (World.block_lt_of_cell? w _ hx180_1)).trans hx180_1; replace hx180_2 := (HB.out.cell (World.block_lt_of_cell? w _ hx180_2)).trans hx180_2; replace hx180_3 := (HB.out.cell (World.block_lt_of_cell? w _ hx180_3)).trans hx180_3; have HR180_0 := Aside0.mk hi180_0; have HC180_0 := Aside0.mk hl180_0; clear hi180_0 hl180_0; replace p180 := eq_true p180; replace q180 := eq_true q180; have ea_ := Option.some.inj (hx178_0.symm.trans hx180_0); injection ea_ with ea_ en_ ec_; subst ea_; subst ec_; clear en_) | ((with_reducible refine gate_callee (f := 30) rfl ?_); refine goesL_ (some 82) rfl rfl Try.func30 (by kernel_rfl) rfl #[.int .i64 ((rd_T27 l0 x3_1).f2), .int .i64 10000] rfl (by (try simp only [List.map_toArray, List.map_cons, List.map_nil]); first | done | rfl | (simp only [List.length_drop, List.length_take]; rfl)) ?_; (with_reducible refine (arraslaw0_Within.calls ((rd_T27 l0 x3_1).f2) 10000 t181 _ A24.out).mono ?_); rintro e w' ⟨rfl, ⟨nd, rfl⟩⟩; refine ⟨_, rfl, ?_⟩))
              (try simp only [Act.put, List.setIfInBounds_toArray, List.set_cons_zero, List.set_cons_succ])
              go_loopg [10] kj4 (fun kq v10 w' => ∃ (x10_5 : Int), v10 = .int .i64 x10_5 ∧ Aside0 (pLaws.l2 kq l0 x3_1 x4_3 t179 (x4_3.length : Int) (wrap64 ((wrap64 (x5_3 + (wrap64 (t179 * (wrap64 ((x4_3.length : Int) - 1)))))) + t181)) x10_5 = some r) ∧ Aside0 (kq ≤ kj4) ∧ Aside0 (Kd.R (Kd.int .i64) 3 w' w.heap.size (fun _ => True) (.slice Ao25 x4_3.length co25) x4_3) ∧ Aside0 (Below w.heap.size w w'))
              case atStart => exact ⟨(0), (by first | rfl | (simp; done) | (simp [*]; done)), H', ⟨Nat.le_refl _⟩, ⟨by (with_reducible repeat (first | apply Kd.R_alloc | apply Kd.R_drewN | apply Kd.R_drew)); exact HO_4.out⟩, ⟨by repeat (first | (with_reducible first | exact HB.out | apply below_alloc | apply pw_below_drewN | apply below_drew1) | exact HB.out)⟩⟩
              case round => as_aux_lemma =>
               clear H'
               try clear c1
               try clear p1
               try clear q1
               try clear hx1
               try clear c2
               try clear p2
               try clear c3
               try clear c3b0
               try clear c4
               try clear c6
               try clear c6b0
               try clear p6
               try clear c7
               try clear c7b0
               try clear c8
               try clear c8b0
               try clear c9
               try clear c10
               try clear c10b0
               try clear c11
               try clear c11b0
               try clear c12
               try clear c12b0
               try clear c13
               try clear c13b0
               try clear c15
               try clear c16
               try clear c16b0
               try clear c17
               try clear p17
               try clear q17
               try clear hx17
               try clear c18
               try clear p18
               try clear q18
               try clear hx18
               try clear c19
               try clear c19b0
               try clear c20
               try clear c20b0
               try clear c22
               try clear c22b0
               try clear c22b1
               try clear c22b2
               try clear hx170_0
               try clear hx170_1
               try clear hx170_2
               try clear hx170_3
               try clear hx171_0
               try clear hx171_1
               try clear hx171_2
               try clear hx171_3
               try clear hx172_0
               try clear hx177_0
               try clear hx178_0
               try clear hx178_1
               try clear hx178_2
               try clear hx178_3
               try clear hx180_0
               try clear hx180_1
               try clear hx180_2
               try clear hx180_3
               try clear p1
               try clear p170
               try clear p171
               try clear p172
               try clear p177
               try clear p178
               try clear p180
               try clear p2
               try clear q1
               try clear q170
               try clear q171
               try clear q172
               try clear q177
               try clear q178
               try clear q180
               obtain ⟨x10_5, rfl, HA, HK5, HO_4, HB⟩ := hrel
               cases gk with
               | zero => exact absurd HA.out (by simp [pLaws.l2])
               | succ k5 =>
                have H := HA.out
                clear HA
                simp only [pLaws.l2] at H
                by_cases c26 : x10_5 ≤ 4
                ·as_aux_lemma =>
                 rw [if_pos c26] at H
                 have c26b0 : decide (x10_5 ≤ 4) = true := decide_eq_true c26
                 clear c26
                 replace H := Option.bind_eq_some_iff.mp H
                 obtain ⟨⟨t182, t183⟩, A270, H⟩ := H
                 replace H : ((arraslaw21_num.f t183).bind fun t186 => (if t186 = 0 then (if (t182.length : Int) = (x4_3.length : Int) then (if 0 < (t182.length : Int) then (if (rd t182 0) < 0 then (pLaws.j5 k5 l0 x3_1 x4_3 t179 (x4_3.length : Int) (wrap64 ((wrap64 (x5_3 + (wrap64 (t179 * (wrap64 ((x4_3.length : Int) - 1)))))) + t181)) x10_5 t182 true) else (if 0 ≤ (wrap64 ((x4_3.length : Int) - 1)) then (if (wrap64 ((x4_3.length : Int) - 1)) < (t182.length : Int) then (if (wrap64 ((x4_3.length : Int) - 1)) < (x4_3.length : Int) then (pLaws.j5 k5 l0 x3_1 x4_3 t179 (x4_3.length : Int) (wrap64 ((wrap64 (x5_3 + (wrap64 (t179 * (wrap64 ((x4_3.length : Int) - 1)))))) + t181)) x10_5 t182 (decide ((wrap64 ((rd t182 (wrap64 ((x4_3.length : Int) - 1))) + (rd x4_3 (wrap64 ((x4_3.length : Int) - 1))))) > (wrap64 ((wrap64 (x5_3 + (wrap64 (t179 * (wrap64 ((x4_3.length : Int) - 1)))))) + t181))))) else (none)) else (none)) else (none))) else (none)) else (pLaws.j5 k5 l0 x3_1 x4_3 t179 (x4_3.length : Int) (wrap64 ((wrap64 (x5_3 + (wrap64 (t179 * (wrap64 ((x4_3.length : Int) - 1)))))) + t181)) x10_5 t182 true)) else (pLaws.j5 k5 l0 x3_1 x4_3 t179 (x4_3.length : Int) (wrap64 ((wrap64 (x5_3 + (wrap64 (t179 * (wrap64 ((x4_3.length : Int) - 1)))))) + t181)) x10_5 t182 true))) = some r := H
                 have A27 := Aside0.mk A270; clear A270; have HC28 := Aside0.mk H; clear H
                 go_upto_region 20 with (first | ((with_reducible refine gate_callee (f := 17) rfl ?_); refine goesL_ (some 93) rfl rfl Try.func17 (by kernel_rfl) rfl #[.slice Ao25 x4_3.length co25, .int .i64 t179, .int .i64 (wrap64 ((wrap64 (x5_3 + (wrap64 (t179 * (wrap64 ((x4_3.length : Int) - 1)))))) + t181)), .int .i64 x10_5] rfl (by (try simp only [List.map_toArray, List.map_cons, List.map_nil]); first | done | rfl | (simp only [List.length_drop, List.length_take]; rfl)) ?_; (with_reducible refine (place_Justify.calls k5 _ _ x4_3 t179 (wrap64 ((wrap64 (x5_3 + (wrap64 (t179 * (wrap64 ((x4_3.length : Int) - 1)))))) + t181)) x10_5 t182 t183 _ ?side1 ?side2 A27.out).mono ?_); (case side1 => repeat (first | exact (Kd.R_reads' HO_4.out).2.2 | (with_reducible refine Kd.C_alloc ?_ _) | (with_reducible refine Kd.C_drewN ?_ _) | (with_reducible refine Kd.C_drew ?_))); (case side2 => exact (Kd.R_reads' HO_4.out).2.1); rintro e w29 ⟨v184, rfl, ho0, hb⟩; refine ⟨_, rfl, ?_⟩; have n0_ := Aside0.mk (Kd.R_elder' (by (with_reducible repeat (first | apply Kd.R_alloc | apply Kd.R_drewN | apply Kd.R_drew)); exact HO_4.out) (Kd.R_base ho0) hb); have n1_ := Aside0.mk (Kd.R_lower (Kd.R_new' ho0 (Kd.R_lt (by (with_reducible repeat (first | apply Kd.R_alloc | apply Kd.R_drewN | apply Kd.R_drew)); exact HO_4.out))) (below_size (by repeat (first | (with_reducible first | exact HB.out | apply below_alloc | apply pw_below_drewN | apply below_drew1) | exact HB.out)))); have n2_ := Aside0.mk (below_step (by repeat (first | (with_reducible first | exact HB.out | apply below_alloc | apply pw_below_drewN | apply below_drew1) | exact HB.out)) hb); clear HO_4; clear HB; have HO_4 := n0_; have HO185 := n1_; have HB := n2_; clear n0_ n1_ n2_; (try clear hb); (try clear hb2); (try clear hk); (try clear hi); (try clear ho0)))
                 (try simp only [Act.put, List.setIfInBounds_toArray, List.set_cons_zero, List.set_cons_succ])
                 go_cut [125] (fun v125 wc => ∃ (kq : Nat) (x125_27 : Bool), v125 = .bool x125_27 ∧ Aside0 (pLaws.j5 kq l0 x3_1 x4_3 t179 (x4_3.length : Int) (wrap64 ((wrap64 (x5_3 + (wrap64 (t179 * (wrap64 ((x4_3.length : Int) - 1)))))) + t181)) x10_5 t182 x125_27 = some r) ∧ Aside0 (kq ≤ k5) ∧ Aside0 (Kd.R (Kd.int .i64) 3 wc w.heap.size (fun k_ => some k_ ≠ (v184 : Value).ownBlock) (.slice Ao25 x4_3.length co25) x4_3) ∧ Aside0 (Kd.R (Kd.int .i64) 3 wc w.heap.size (fun k_ => some k_ ≠ ((.slice Ao25 x4_3.length co25) : Value).ownBlock) v184 t182) ∧ Aside0 (Below w.heap.size w wc))
                 case first => as_aux_lemma =>
                  have H := HC28.out
                  clear HC28
                  replace H := Option.bind_eq_some_iff.mp H
                  obtain ⟨t186, A300, H⟩ := H
                  replace H : (if t186 = 0 then (if (t182.length : Int) = (x4_3.length : Int) then (if 0 < (t182.length : Int) then (if (rd t182 0) < 0 then (pLaws.j5 k5 l0 x3_1 x4_3 t179 (x4_3.length : Int) (wrap64 ((wrap64 (x5_3 + (wrap64 (t179 * (wrap64 ((x4_3.length : Int) - 1)))))) + t181)) x10_5 t182 true) else (if 0 ≤ (wrap64 ((x4_3.length : Int) - 1)) then (if (wrap64 ((x4_3.length : Int) - 1)) < (t182.length : Int) then (if (wrap64 ((x4_3.length : Int) - 1)) < (x4_3.length : Int) then (pLaws.j5 k5 l0 x3_1 x4_3 t179 (x4_3.length : Int) (wrap64 ((wrap64 (x5_3 + (wrap64 (t179 * (wrap64 ((x4_3.length : Int) - 1)))))) + t181)) x10_5 t182 (decide ((wrap64 ((rd t182 (wrap64 ((x4_3.length : Int) - 1))) + (rd x4_3 (wrap64 ((x4_3.length : Int) - 1))))) > (wrap64 ((wrap64 (x5_3 + (wrap64 (t179 * (wrap64 ((x4_3.length : Int) - 1)))))) + t181))))) else (none)) else (none)) else (none))) else (none)) else (pLaws.j5 k5 l0 x3_1 x4_3 t179 (x4_3.length : Int) (wrap64 ((wrap64 (x5_3 + (wrap64 (t179 * (wrap64 ((x4_3.length : Int) - 1)))))) + t181)) x10_5 t182 true)) else (pLaws.j5 k5 l0 x3_1 x4_3 t179 (x4_3.length : Int) (wrap64 ((wrap64 (x5_3 + (wrap64 (t179 * (wrap64 ((x4_3.length : Int) - 1)))))) + t181)) x10_5 t182 true)) = some r := H
                  have A30 := Aside0.mk A300; clear A300
                  by_cases c31 : t186 = 0
                  ·as_aux_lemma =>
                   rw [if_pos c31] at H
                   have c31b0 : (t186 == 0) = true := beq_iff_eq.mpr c31
                   have c31b1 : (t186 != 0) = false := bne_eq_false_iff_eq.mpr c31
                   clear c31
                   (first | rw [c31b0] | (simp only [i64_w, i32_w]; rw [c31b0]) | skip)
                   by_cases c32 : (t182.length : Int) = (x4_3.length : Int)
                   ·as_aux_lemma =>
                    rw [if_pos c32] at H
                    have c32b0 : ((t182.length : Int) == (x4_3.length : Int)) = true := beq_iff_eq.mpr c32
                    have c32b1 : ((t182.length : Int) != (x4_3.length : Int)) = false := bne_eq_false_iff_eq.mpr c32
                    have c32b2 : (t182.length == x4_3.length) = true := by first | simpa using c32 | (simp at c32 ⊢; omega)
                    clear c32
                    by_cases c33 : 0 < (t182.length : Int)
                    ·as_aux_lemma =>
                     rw [if_pos c33] at H
                     have c33b0 : decide (0 < (t182.length : Int)) = true := decide_eq_true c33
                     have c33b1 : decide (0 < t182.length) = true := decide_eq_true (by omega)
                     clear c33
                     by_cases c34 : (rd t182 0) < 0
                     ·as_aux_lemma =>
                      rw [if_pos c34] at H
                      have c34b0 : decide ((rd t182 0) < 0) = true := decide_eq_true c34
                      clear c34
                      have H' := Aside0.mk H
                      clear H
                      try go_wp2
                      have n0_ := Aside0.mk (Kd.R_drew HO_4.out); have n1_ := Aside0.mk (Kd.R_drew HO185.out); have n2_ := Aside0.mk (below_drew1 HB.out); clear HO_4; clear HO185; clear HB; have HO_4 := n0_; have HO185 := n1_; have HB := n2_; clear n0_ n1_ n2_; obtain ⟨Aop, cop, eop⟩ := Kd.R_slice HO185.out; subst eop; have p187 : 0 ≤ (0 : Int) := (by omega); have q187 : 0 < (t182.length : Int) := of_decide_eq_true (by first | (with_reducible assumption) | assumption); obtain ⟨ad187, e187, hx187_0⟩ := Kd.at_int (Kd.R_reads' HO185.out).2.2 0 p187 q187; cases e187; have qi187 : (0 < t182.length) = True := eq_true (by omega); (try rw [show ((0 : Int)).toNat = 0 from rfl] at hx187_0); (try rw [Addr.add_zero'] at hx187_0); replace p187 := eq_true p187; replace q187 := eq_true q187
                      refine start_ (n := 30) (S := fun w' => w'.cell? ad187 = some (.int .i64 (rd t182 0))) (ds := []) pm0 (by kernel_rfl) rfl rfl (hx187_0) (fun hHeld => ?_); refine with_tabW pLaws.tab20 pLaws.bits20 (fun HT_ HW_ => ?_)
                      generalize w29.drew = w35 at HO_4 HO185 HB hx187_0 hHeld ⊢
                      refine pure_ (i := 0) (N := some 96) (v := ?_) (a' := ?_) pm3 rfl rfl (any_of HT_.out (by kernel_rfl)) (fun _ _ _ h => h) (Or.inl ⟨by rfl, ?_⟩) ?_ ?_
                      rotate_left
                      ·intro w'; go_simp
                       with_reducible rfl
                      rotate_left
                      ·simp only [Act.put, List.setIfInBounds_toArray, List.set_cons_zero, List.set_cons_succ, i64_w, i32_w]
                       rfl
                      refine one_ (i := 1) (N := some 97) pm6 rfl rfl (one_of HT_.out (by kernel_rfl)) (by decide) (fun K hK => ?_)
                      refine goes_ Try.func20 (by kernel_rfl) rfl #[.int .i64 t183] (by rfl) rfl rfl (by (try simp only [List.map_toArray, List.map_cons, List.map_nil]); first | done | rfl | (simp only [List.length_drop, List.length_take]; rfl)) ?_
                      with_reducible refine (arraslaw21_num.calls t183 t186 _ A30.out).mono ?_
                      rintro e w' ⟨rfl, ⟨nd, rfl⟩⟩
                      refine ⟨_, rfl, ?_⟩
                      obtain ⟨Ao36, co36, eo36⟩ := Kd.R_slice HO185.out
                      (first | subst eo36 | (injection eo36 with f1_ f2_ f3_; have f4_ := f1_.symm; have f5_ := f3_.symm; clear f1_ f2_ f3_; subst f4_; subst f5_))
                      refine hK.out _ _ (hHeld) (fun hHeld => ?_)
                      clear hK K
                      refine norm_ (a' := ?_) ?_ ?_
                      rotate_left
                      ·show Act.put _ (some 97) _ = _
                       simp only [Act.put, List.setIfInBounds_toArray, List.set_cons_zero, List.set_cons_succ, i64_w, i32_w]
                       rfl
                      refine pure_ (i := 2) (N := some 98) (v := ?_) (a' := ?_) pm9 rfl rfl (any_of HT_.out (by kernel_rfl)) (fun _ _ _ h => h) (Or.inl ⟨by rfl, ?_⟩) ?_ ?_
                      rotate_left
                      ·intro w'; go_simp
                       with_reducible rfl
                      rotate_left
                      ·simp only [Act.put, List.setIfInBounds_toArray, List.set_cons_zero, List.set_cons_succ, i64_w, i32_w]
                       rfl
                      refine pure_ (i := 3) (N := some 99) (v := ?_) (a' := ?_) pm21 rfl rfl (any_of HT_.out (by kernel_rfl)) (fun _ _ _ h => h) (Or.inl ⟨by rfl, ?_⟩) ?_ ?_
                      rotate_left
                      ·intro w'; go_simp
                       with_reducible rfl
                      rotate_left
                      ·simp only [Act.put, List.setIfInBounds_toArray, List.set_cons_zero, List.set_cons_succ, i64_w, i32_w]
                       rfl
                      refine pure_ (i := 4) (N := some 100) (v := ?_) (a' := ?_) pm23 rfl rfl (any_of HT_.out (by kernel_rfl)) (fun _ _ _ h => h) (Or.inl ⟨by rfl, ?_⟩) ?_ ?_
                      rotate_left
                      ·intro w'; go_simp
                       with_reducible rfl
                      rotate_left
                      ·simp only [Act.put, List.setIfInBounds_toArray, List.set_cons_zero, List.set_cons_succ, i64_w, i32_w]
                       rfl
                      refine pure_ (i := 5) (N := some 101) (v := ?_) (a' := ?_) pm29 rfl rfl (any_of HT_.out (by kernel_rfl)) (fun _ _ _ h => h) (Or.inl ⟨by rfl, ?_⟩) ?_ ?_
                      rotate_left
                      ·intro w'; go_simp
                       with_reducible rfl
                      rotate_left
                      ·simp only [Act.put, List.setIfInBounds_toArray, List.set_cons_zero, List.set_cons_succ, i64_w, i32_w]
                       rfl
                      refine pure_ (i := 6) (N := some 102) (v := ?_) (a' := ?_) pm31 rfl rfl (any_of HT_.out (by kernel_rfl)) (fun _ _ _ h => h) (Or.inl ⟨by rfl, ?_⟩) ?_ ?_
                      rotate_left
                      ·intro w'; go_simp
                       with_reducible rfl
                      rotate_left
                      ·simp only [Act.put, List.setIfInBounds_toArray, List.set_cons_zero, List.set_cons_succ, i64_w, i32_w]
                       rfl
                      refine pure_ (i := 7) (N := some 103) (v := ?_) (a' := ?_) pm32 rfl rfl (any_of HT_.out (by kernel_rfl)) (fun _ _ _ h => h) (Or.inl ⟨by rfl, ?_⟩) ?_ ?_
                      rotate_left
                      ·intro w'; go_simp
                       with_reducible rfl
                      rotate_left
                      ·simp only [Act.put, List.setIfInBounds_toArray, List.set_cons_zero, List.set_cons_succ, i64_w, i32_w]
                       rfl
                      refine pure_ (i := 8) (N := some 104) (v := ?_) (a' := ?_) pm34 rfl rfl (any_of HT_.out (by kernel_rfl)) (fun _ _ _ h => h) (Or.inl ⟨by rfl, ?_⟩) ?_ ?_
                      rotate_left
                      ·intro w'; go_simp
                       with_reducible rfl
                      rotate_left
                      ·simp only [Act.put, List.setIfInBounds_toArray, List.set_cons_zero, List.set_cons_succ, i64_w, i32_w]
                       rfl
                      refine pure_ (i := 9) (N := some 105) (v := ?_) (a' := ?_) pm35 rfl rfl (any_of HT_.out (by kernel_rfl)) (fun _ _ _ h => h) (Or.inl ⟨by rfl, ?_⟩) ?_ ?_
                      rotate_left
                      ·intro w'; go_simp
                       with_reducible rfl
                      rotate_left
                      ·simp only [Act.put, List.setIfInBounds_toArray, List.set_cons_zero, List.set_cons_succ, i64_w, i32_w]
                       rfl
                      refine pure_ (i := 10) (N := some 106) (v := ?_) (a' := ?_) pm36 rfl rfl (any_of HT_.out (by kernel_rfl)) (fun _ _ _ h => h) (Or.inl ⟨by rfl, ?_⟩) ?_ ?_
                      rotate_left
                      ·intro w'; go_simp
                       with_reducible rfl
                      rotate_left
                      ·simp only [Act.put, List.setIfInBounds_toArray, List.set_cons_zero, List.set_cons_succ, i64_w, i32_w]
                       rfl
                      refine pure_ (i := 11) (N := some 107) (v := ?_) (a' := ?_) pm38 rfl rfl (any_of HT_.out (by kernel_rfl)) (fun _ _ _ h => h) (Or.inl ⟨by rfl, ?_⟩) ?_ ?_
                      rotate_left
                      ·intro w'; go_simp
                       with_reducible rfl
                      rotate_left
                      ·simp only [Act.put, List.setIfInBounds_toArray, List.set_cons_zero, List.set_cons_succ, i64_w, i32_w]
                       rfl
                      refine take_ (i := 12) (N := some 108) (v := ?_) (a' := ?_) pm40 rfl rfl (take_ofW HT_.out HW_.out (by kernel_rfl)) (fun _ _ _ h => h) (Or.inl ⟨by rfl, ?_⟩) hHeld ?_ ?_
                      rotate_left
                      ·intro w' s0
                       go_simp
                       with_reducible rfl
                      rotate_left
                      ·simp only [Act.put, List.setIfInBounds_toArray, List.set_cons_zero, List.set_cons_succ, i64_w, i32_w]
                       rfl
                      refine pure_ (i := 13) (N := some 109) (v := ?_) (a' := ?_) pm43 rfl rfl (any_of HT_.out (by kernel_rfl)) (fun _ _ _ h => h) (Or.inl ⟨by rfl, ?_⟩) ?_ ?_
                      rotate_left
                      ·intro w'; go_simp
                       with_reducible rfl
                      rotate_left
                      ·simp only [Act.put, List.setIfInBounds_toArray, List.set_cons_zero, List.set_cons_succ, i64_w, i32_w]
                       rfl
                      refine pure_ (i := 14) (N := some 110) (v := ?_) (a' := ?_) pm45 rfl rfl (any_of HT_.out (by kernel_rfl)) (fun _ _ _ h => h) (Or.inl ⟨by rfl, ?_⟩) ?_ ?_
                      rotate_left
                      ·intro w'; go_simp
                       with_reducible rfl
                      rotate_left
                      ·simp only [Act.put, List.setIfInBounds_toArray, List.set_cons_zero, List.set_cons_succ, i64_w, i32_w]
                       rfl
                      refine pure_ (i := 15) (N := some 111) (v := ?_) (a' := ?_) pm46 rfl rfl (any_of HT_.out (by kernel_rfl)) (fun _ _ _ h => h) (Or.inl ⟨by rfl, ?_⟩) ?_ ?_
                      rotate_left
                      ·intro w'; go_simp
                       with_reducible rfl
                      rotate_left
                      ·simp only [Act.put, List.setIfInBounds_toArray, List.set_cons_zero, List.set_cons_succ, i64_w, i32_w]
                       rfl
                      refine pure_ (i := 16) (N := some 112) (v := undef) (a' := ?_) pm48 rfl rfl (any_of HT_.out (by kernel_rfl)) (fun _ _ _ h => h) (Or.inr ⟨by rfl, rfl⟩) ?_ ?_
                      rotate_left
                      ·simp only [Act.put, List.setIfInBounds_toArray, List.set_cons_zero, List.set_cons_succ, i64_w, i32_w]
                       rfl
                      refine pure_ (i := 17) (N := some 113) (v := undef) (a' := ?_) pm50 rfl rfl (any_of HT_.out (by kernel_rfl)) (fun _ _ _ h => h) (Or.inr ⟨by rfl, rfl⟩) ?_ ?_
                      rotate_left
                      ·simp only [Act.put, List.setIfInBounds_toArray, List.set_cons_zero, List.set_cons_succ, i64_w, i32_w]
                       rfl
                      refine pure_ (i := 18) (N := some 114) (v := undef) (a' := ?_) pm51 rfl rfl (any_of HT_.out (by kernel_rfl)) (fun _ _ _ h => h) (Or.inr ⟨by rfl, rfl⟩) ?_ ?_
                      rotate_left
                      ·simp only [Act.put, List.setIfInBounds_toArray, List.set_cons_zero, List.set_cons_succ, i64_w, i32_w]
                       rfl
                      refine pure_ (i := 19) (N := some 115) (v := undef) (a' := ?_) pm52 rfl rfl (any_of HT_.out (by kernel_rfl)) (fun _ _ _ h => h) (Or.inr ⟨by rfl, rfl⟩) ?_ ?_
                      rotate_left
                      ·simp only [Act.put, List.setIfInBounds_toArray, List.set_cons_zero, List.set_cons_succ, i64_w, i32_w]
                       rfl
                      refine pure_ (i := 20) (N := some 116) (v := undef) (a' := ?_) pm58 rfl rfl (any_of HT_.out (by kernel_rfl)) (fun _ _ _ h => h) (Or.inr ⟨by rfl, rfl⟩) ?_ ?_
                      rotate_left
                      ·simp only [Act.put, List.setIfInBounds_toArray, List.set_cons_zero, List.set_cons_succ, i64_w, i32_w]
                       rfl
                      refine pure_ (i := 21) (N := some 117) (v := undef) (a' := ?_) pm59 rfl rfl (any_of HT_.out (by kernel_rfl)) (fun _ _ _ h => h) (Or.inr ⟨by rfl, rfl⟩) ?_ ?_
                      rotate_left
                      ·simp only [Act.put, List.setIfInBounds_toArray, List.set_cons_zero, List.set_cons_succ, i64_w, i32_w]
                       rfl
                      refine pure_ (i := 22) (N := some 118) (v := undef) (a' := ?_) pm60 rfl rfl (any_of HT_.out (by kernel_rfl)) (fun _ _ _ h => h) (Or.inr ⟨by rfl, rfl⟩) ?_ ?_
                      rotate_left
                      ·simp only [Act.put, List.setIfInBounds_toArray, List.set_cons_zero, List.set_cons_succ, i64_w, i32_w]
                       rfl
                      refine pure_ (i := 23) (N := some 119) (v := undef) (a' := ?_) pm61 rfl rfl (any_of HT_.out (by kernel_rfl)) (fun _ _ _ h => h) (Or.inr ⟨by rfl, rfl⟩) ?_ ?_
                      rotate_left
                      ·simp only [Act.put, List.setIfInBounds_toArray, List.set_cons_zero, List.set_cons_succ, i64_w, i32_w]
                       rfl
                      refine pure_ (i := 24) (N := some 120) (v := undef) (a' := ?_) pm62 rfl rfl (any_of HT_.out (by kernel_rfl)) (fun _ _ _ h => h) (Or.inr ⟨by rfl, rfl⟩) ?_ ?_
                      rotate_left
                      ·simp only [Act.put, List.setIfInBounds_toArray, List.set_cons_zero, List.set_cons_succ, i64_w, i32_w]
                       rfl
                      refine pure_ (i := 25) (N := some 121) (v := undef) (a' := ?_) pm64 rfl rfl (any_of HT_.out (by kernel_rfl)) (fun _ _ _ h => h) (Or.inr ⟨by rfl, rfl⟩) ?_ ?_
                      rotate_left
                      ·simp only [Act.put, List.setIfInBounds_toArray, List.set_cons_zero, List.set_cons_succ, i64_w, i32_w]
                       rfl
                      refine pure_ (i := 26) (N := some 122) (v := undef) (a' := ?_) pm66 rfl rfl (any_of HT_.out (by kernel_rfl)) (fun _ _ _ h => h) (Or.inr ⟨by rfl, rfl⟩) ?_ ?_
                      rotate_left
                      ·simp only [Act.put, List.setIfInBounds_toArray, List.set_cons_zero, List.set_cons_succ, i64_w, i32_w]
                       rfl
                      refine pure_ (i := 27) (N := some 123) (v := undef) (a' := ?_) pm67 rfl rfl (any_of HT_.out (by kernel_rfl)) (fun _ _ _ h => h) (Or.inr ⟨by rfl, rfl⟩) ?_ ?_
                      rotate_left
                      ·simp only [Act.put, List.setIfInBounds_toArray, List.set_cons_zero, List.set_cons_succ, i64_w, i32_w]
                       rfl
                      refine pure_ (i := 28) (N := some 124) (v := undef) (a' := ?_) pm68 rfl rfl (any_of HT_.out (by kernel_rfl)) (fun _ _ _ h => h) (Or.inr ⟨by rfl, rfl⟩) ?_ ?_
                      rotate_left
                      ·simp only [Act.put, List.setIfInBounds_toArray, List.set_cons_zero, List.set_cons_succ, i64_w, i32_w]
                       rfl
                      refine pure_ (i := 29) (N := some 125) (v := ?_) (a' := ?_) pm69 rfl rfl (any_of HT_.out (by kernel_rfl)) (fun _ _ _ h => h) (Or.inl ⟨by rfl, ?_⟩) ?_ ?_
                      rotate_left
                      ·intro w'; go_simp
                       with_reducible rfl
                      rotate_left
                      ·simp only [Act.put, List.setIfInBounds_toArray, List.set_cons_zero, List.set_cons_succ, i64_w, i32_w]
                       rfl
                      refine done_ (done_of HT_.out (by kernel_rfl)) ?_
                      try go_wp2
                      go_meet
                      case rel => exact ⟨_, (true), (by first | rfl | (simp; done) | (simp [*]; done)), H', ⟨by have := HK1.out; have := HJ1.out; have := HK3.out; have := HJ4.out; have := HK5.out; first | omega | exact Nat.le_refl _⟩, ⟨by (with_reducible repeat (first | apply Kd.R_alloc | apply Kd.R_drewN | apply Kd.R_drew)); exact Kd.R_mono HO_4.out (fun _ hk => hk.2)⟩, ⟨by (with_reducible repeat (first | apply Kd.R_alloc | apply Kd.R_drewN | apply Kd.R_drew)); exact Kd.R_mono HO185.out (fun _ hk => hk.2)⟩, ⟨by repeat (first | (with_reducible first | exact HB.out | apply below_alloc | apply pw_below_drewN | apply below_drew1) | exact HB.out)⟩⟩
                     ·as_aux_lemma =>
                      rw [if_neg c34] at H
                      have c34b0 : decide ((rd t182 0) < 0) = false := decide_eq_false c34
                      clear c34
                      obtain ⟨ji37, hji37⟩ : ∃ j_ : Int, (wrap64 ((x4_3.length : Int) - 1)) = j_ := ⟨_, rfl⟩
                      replace H : (if 0 ≤ (ji37) then (if (ji37) < (t182.length : Int) then (if (ji37) < (x4_3.length : Int) then (pLaws.j5 k5 l0 x3_1 x4_3 t179 (x4_3.length : Int) (wrap64 ((wrap64 (x5_3 + (wrap64 (t179 * (ji37))))) + t181)) x10_5 t182 (decide ((wrap64 ((rd t182 (ji37)) + (rd x4_3 (ji37)))) > (wrap64 ((wrap64 (x5_3 + (wrap64 (t179 * (ji37))))) + t181))))) else (none)) else (none)) else (none)) = some r := by first | (rw [hji37] at H; exact H) | (simp only [hji37] at H ⊢; exact H)
                      (try rw [hji37] at A30)
                      have hji37w : (IntKind.i64.wrap ((x4_3.length : Int) - 1)) = ji37 := (i64_w _).trans hji37
                      by_cases c38 : 0 ≤ (ji37)
                      ·as_aux_lemma =>
                       rw [if_pos c38] at H
                       have c38b0 : decide (0 ≤ (ji37)) = true := decide_eq_true c38
                       clear c38
                       by_cases c39 : (ji37) < (t182.length : Int)
                       ·as_aux_lemma =>
                        rw [if_pos c39] at H
                        have c39b0 : decide ((ji37) < (t182.length : Int)) = true := decide_eq_true c39
                        clear c39
                        by_cases c40 : (ji37) < (x4_3.length : Int)
                        ·as_aux_lemma =>
                         rw [if_pos c40] at H
                         have c40b0 : decide ((ji37) < (x4_3.length : Int)) = true := decide_eq_true c40
                         clear c40
                         have H' := Aside0.mk H
                         clear H
                         try go_wp2
                         have n0_ := Aside0.mk (Kd.R_drew HO_4.out); have n1_ := Aside0.mk (Kd.R_drew HO185.out); have n2_ := Aside0.mk (below_drew1 HB.out); clear HO_4; clear HO185; clear HB; have HO_4 := n0_; have HO185 := n1_; have HB := n2_; clear n0_ n1_ n2_; obtain ⟨Aop, cop, eop⟩ := Kd.R_slice HO185.out; subst eop; have p187 : 0 ≤ (0 : Int) := (by omega); have q187 : 0 < (t182.length : Int) := of_decide_eq_true (by first | (with_reducible assumption) | assumption); obtain ⟨ad187, e187, hx187_0⟩ := Kd.at_int (Kd.R_reads' HO185.out).2.2 0 p187 q187; cases e187; have qi187 : (0 < t182.length) = True := eq_true (by omega); (try rw [show ((0 : Int)).toNat = 0 from rfl] at hx187_0); (try rw [Addr.add_zero'] at hx187_0); replace p187 := eq_true p187; replace q187 := eq_true q187; have p188 : 0 ≤ ((ji37) : Int) := of_decide_eq_true (by first | (with_reducible assumption) | assumption); have q188 : (ji37) < (t182.length : Int) := of_decide_eq_true (by first | (with_reducible assumption) | assumption); obtain ⟨ad188, e188, hx188_0⟩ := Kd.at_int (Kd.R_reads' HO185.out).2.2 (ji37) p188 q188; obtain rfl : ad187 = ad188 := (by injection e188); replace p188 := eq_true p188; replace q188 := eq_true q188; have p189 : 0 ≤ ((ji37) : Int) := of_decide_eq_true (by first | (with_reducible assumption) | assumption); have q189 : (ji37) < (x4_3.length : Int) := of_decide_eq_true (by first | (with_reducible assumption) | assumption); obtain ⟨ad189, e189, hx189_0⟩ := Kd.at_int (Kd.R_reads' HO_4.out).2.2 (ji37) p189 q189; cases e189; replace p189 := eq_true p189; replace q189 := eq_true q189
                         refine start_ (n := 30) (S := fun w' => w'.cell? ad187 = some (.int .i64 (rd t182 0)) ∧ w'.cell? (ad187.add ((ji37)).toNat) = some (.int .i64 (rd t182 (ji37))) ∧ w'.cell? (ad189.add ((ji37)).toNat) = some (.int .i64 (rd x4_3 (ji37)))) (ds := []) pm0 (by kernel_rfl) rfl rfl ⟨hx187_0, hx188_0, hx189_0⟩ (fun hHeld => ?_); refine with_tabW pLaws.tab20 pLaws.bits20 (fun HT_ HW_ => ?_)
                         generalize w29.drew = w41 at HO_4 HO185 HB hx187_0 hx188_0 hx189_0 hHeld ⊢
                         refine pure_ (i := 0) (N := some 96) (v := ?_) (a' := ?_) pm3 rfl rfl (any_of HT_.out (by kernel_rfl)) (fun _ _ _ h => h) (Or.inl ⟨by rfl, ?_⟩) ?_ ?_
                         rotate_left
                         ·intro w'; go_simp
                          with_reducible rfl
                         rotate_left
                         ·simp only [Act.put, List.setIfInBounds_toArray, List.set_cons_zero, List.set_cons_succ, i64_w, i32_w]
                          rfl
                         refine one_ (i := 1) (N := some 97) pm6 rfl rfl (one_of HT_.out (by kernel_rfl)) (by decide) (fun K hK => ?_)
                         refine goes_ Try.func20 (by kernel_rfl) rfl #[.int .i64 t183] (by rfl) rfl rfl (by (try simp only [List.map_toArray, List.map_cons, List.map_nil]); first | done | rfl | (simp only [List.length_drop, List.length_take]; rfl)) ?_
                         with_reducible refine (arraslaw21_num.calls t183 t186 _ A30.out).mono ?_
                         rintro e w' ⟨rfl, ⟨nd, rfl⟩⟩
                         refine ⟨_, rfl, ?_⟩
                         obtain ⟨Ao42, co42, eo42⟩ := Kd.R_slice HO185.out
                         (first | subst eo42 | (injection eo42 with f1_ f2_ f3_; have f4_ := f1_.symm; have f5_ := f3_.symm; clear f1_ f2_ f3_; subst f4_; subst f5_))
                         refine hK.out _ _ ⟨hHeld.1, hHeld.2.1, hHeld.2.2⟩ (fun hHeld => ?_)
                         clear hK K
                         refine norm_ (a' := ?_) ?_ ?_
                         rotate_left
                         ·show Act.put _ (some 97) _ = _
                          simp only [Act.put, List.setIfInBounds_toArray, List.set_cons_zero, List.set_cons_succ, i64_w, i32_w]
                          rfl
                         refine pure_ (i := 2) (N := some 98) (v := ?_) (a' := ?_) pm9 rfl rfl (any_of HT_.out (by kernel_rfl)) (fun _ _ _ h => h) (Or.inl ⟨by rfl, ?_⟩) ?_ ?_
                         rotate_left
                         ·intro w'; go_simp
                          with_reducible rfl
                         rotate_left
                         ·simp only [Act.put, List.setIfInBounds_toArray, List.set_cons_zero, List.set_cons_succ, i64_w, i32_w]
                          rfl
                         refine pure_ (i := 3) (N := some 99) (v := ?_) (a' := ?_) pm21 rfl rfl (any_of HT_.out (by kernel_rfl)) (fun _ _ _ h => h) (Or.inl ⟨by rfl, ?_⟩) ?_ ?_
                         rotate_left
                         ·intro w'; go_simp
                          with_reducible rfl
                         rotate_left
                         ·simp only [Act.put, List.setIfInBounds_toArray, List.set_cons_zero, List.set_cons_succ, i64_w, i32_w]
                          rfl
                         refine pure_ (i := 4) (N := some 100) (v := ?_) (a' := ?_) pm23 rfl rfl (any_of HT_.out (by kernel_rfl)) (fun _ _ _ h => h) (Or.inl ⟨by rfl, ?_⟩) ?_ ?_
                         rotate_left
                         ·intro w'; go_simp
                          with_reducible rfl
                         rotate_left
                         ·simp only [Act.put, List.setIfInBounds_toArray, List.set_cons_zero, List.set_cons_succ, i64_w, i32_w]
                          rfl
                         refine pure_ (i := 5) (N := some 101) (v := ?_) (a' := ?_) pm29 rfl rfl (any_of HT_.out (by kernel_rfl)) (fun _ _ _ h => h) (Or.inl ⟨by rfl, ?_⟩) ?_ ?_
                         rotate_left
                         ·intro w'; go_simp
                          with_reducible rfl
                         rotate_left
                         ·simp only [Act.put, List.setIfInBounds_toArray, List.set_cons_zero, List.set_cons_succ, i64_w, i32_w]
                          rfl
                         refine pure_ (i := 6) (N := some 102) (v := ?_) (a' := ?_) pm31 rfl rfl (any_of HT_.out (by kernel_rfl)) (fun _ _ _ h => h) (Or.inl ⟨by rfl, ?_⟩) ?_ ?_
                         rotate_left
                         ·intro w'; go_simp
                          with_reducible rfl
                         rotate_left
                         ·simp only [Act.put, List.setIfInBounds_toArray, List.set_cons_zero, List.set_cons_succ, i64_w, i32_w]
                          rfl
                         refine pure_ (i := 7) (N := some 103) (v := ?_) (a' := ?_) pm32 rfl rfl (any_of HT_.out (by kernel_rfl)) (fun _ _ _ h => h) (Or.inl ⟨by rfl, ?_⟩) ?_ ?_
                         rotate_left
                         ·intro w'; go_simp
                          with_reducible rfl
                         rotate_left
                         ·simp only [Act.put, List.setIfInBounds_toArray, List.set_cons_zero, List.set_cons_succ, i64_w, i32_w]
                          rfl
                         refine pure_ (i := 8) (N := some 104) (v := ?_) (a' := ?_) pm34 rfl rfl (any_of HT_.out (by kernel_rfl)) (fun _ _ _ h => h) (Or.inl ⟨by rfl, ?_⟩) ?_ ?_
                         rotate_left
                         ·intro w'; go_simp
                          with_reducible rfl
                         rotate_left
                         ·simp only [Act.put, List.setIfInBounds_toArray, List.set_cons_zero, List.set_cons_succ, i64_w, i32_w]
                          rfl
                         refine pure_ (i := 9) (N := some 105) (v := ?_) (a' := ?_) pm35 rfl rfl (any_of HT_.out (by kernel_rfl)) (fun _ _ _ h => h) (Or.inl ⟨by rfl, ?_⟩) ?_ ?_
                         rotate_left
                         ·intro w'; go_simp
                          with_reducible rfl
                         rotate_left
                         ·simp only [Act.put, List.setIfInBounds_toArray, List.set_cons_zero, List.set_cons_succ, i64_w, i32_w]
                          rfl
                         refine pure_ (i := 10) (N := some 106) (v := ?_) (a' := ?_) pm36 rfl rfl (any_of HT_.out (by kernel_rfl)) (fun _ _ _ h => h) (Or.inl ⟨by rfl, ?_⟩) ?_ ?_
                         rotate_left
                         ·intro w'; go_simp
                          with_reducible rfl
                         rotate_left
                         ·simp only [Act.put, List.setIfInBounds_toArray, List.set_cons_zero, List.set_cons_succ, i64_w, i32_w]
                          rfl
                         refine pure_ (i := 11) (N := some 107) (v := ?_) (a' := ?_) pm38 rfl rfl (any_of HT_.out (by kernel_rfl)) (fun _ _ _ h => h) (Or.inl ⟨by rfl, ?_⟩) ?_ ?_
                         rotate_left
                         ·intro w'; go_simp
                          with_reducible rfl
                         rotate_left
                         ·simp only [Act.put, List.setIfInBounds_toArray, List.set_cons_zero, List.set_cons_succ, i64_w, i32_w]
                          rfl
                         refine take_ (i := 12) (N := some 108) (v := ?_) (a' := ?_) pm40 rfl rfl (take_ofW HT_.out HW_.out (by kernel_rfl)) (fun _ _ _ h => h) (Or.inl ⟨by rfl, ?_⟩) hHeld ?_ ?_
                         rotate_left
                         ·rintro w' ⟨s0, s1, s2⟩
                          go_simp
                          with_reducible rfl
                         rotate_left
                         ·simp only [Act.put, List.setIfInBounds_toArray, List.set_cons_zero, List.set_cons_succ, i64_w, i32_w]
                          rfl
                         refine pure_ (i := 13) (N := some 109) (v := ?_) (a' := ?_) pm43 rfl rfl (any_of HT_.out (by kernel_rfl)) (fun _ _ _ h => h) (Or.inl ⟨by rfl, ?_⟩) ?_ ?_
                         rotate_left
                         ·intro w'; go_simp
                          with_reducible rfl
                         rotate_left
                         ·simp only [Act.put, List.setIfInBounds_toArray, List.set_cons_zero, List.set_cons_succ, i64_w, i32_w]
                          rfl
                         refine pure_ (i := 14) (N := some 110) (v := ?_) (a' := ?_) pm45 rfl rfl (any_of HT_.out (by kernel_rfl)) (fun _ _ _ h => h) (Or.inl ⟨by rfl, ?_⟩) ?_ ?_
                         rotate_left
                         ·intro w'; go_simp
                          with_reducible rfl
                         rotate_left
                         ·simp only [Act.put, List.setIfInBounds_toArray, List.set_cons_zero, List.set_cons_succ, i64_w, i32_w]
                          rfl
                         refine pure_ (i := 15) (N := some 111) (v := ?_) (a' := ?_) pm46 rfl rfl (any_of HT_.out (by kernel_rfl)) (fun _ _ _ h => h) (Or.inl ⟨by rfl, ?_⟩) ?_ ?_
                         rotate_left
                         ·intro w'; go_simp
                          with_reducible rfl
                         rotate_left
                         ·simp only [Act.put, List.setIfInBounds_toArray, List.set_cons_zero, List.set_cons_succ, i64_w, i32_w]
                          rfl
                         refine pure_ (i := 16) (N := some 112) (v := ?_) (a' := ?_) pm48 rfl rfl (any_of HT_.out (by kernel_rfl)) (fun _ _ _ h => h) (Or.inl ⟨by rfl, ?_⟩) ?_ ?_
                         rotate_left
                         ·intro w'; go_simp
                          with_reducible rfl
                         rotate_left
                         ·simp only [Act.put, List.setIfInBounds_toArray, List.set_cons_zero, List.set_cons_succ, i64_w, i32_w]
                          rfl
                         refine pure_ (i := 17) (N := some 113) (v := ?_) (a' := ?_) pm50 rfl rfl (any_of HT_.out (by kernel_rfl)) (fun _ _ _ h => h) (Or.inl ⟨by rfl, ?_⟩) ?_ ?_
                         rotate_left
                         ·intro w'; go_simp
                          with_reducible rfl
                         rotate_left
                         ·simp only [Act.put, List.setIfInBounds_toArray, List.set_cons_zero, List.set_cons_succ, i64_w, i32_w]
                          rfl
                         refine pure_ (i := 18) (N := some 114) (v := ?_) (a' := ?_) pm51 rfl rfl (any_of HT_.out (by kernel_rfl)) (fun _ _ _ h => h) (Or.inl ⟨by rfl, ?_⟩) ?_ ?_
                         rotate_left
                         ·intro w'; go_simp
                          with_reducible rfl
                         rotate_left
                         ·simp only [Act.put, List.setIfInBounds_toArray, List.set_cons_zero, List.set_cons_succ, i64_w, i32_w]
                          rfl
                         refine pure_ (i := 19) (N := some 115) (v := ?_) (a' := ?_) pm52 rfl rfl (any_of HT_.out (by kernel_rfl)) (fun _ _ _ h => h) (Or.inl ⟨by rfl, ?_⟩) ?_ ?_
                         rotate_left
                         ·intro w'; go_simp
                          with_reducible rfl
                         rotate_left
                         ·simp only [Act.put, List.setIfInBounds_toArray, List.set_cons_zero, List.set_cons_succ, i64_w, i32_w]
                          rfl
                         refine pure_ (i := 21) (N := some 117) (v := ?_) (a' := ?_) pm53 rfl rfl (any_of HT_.out (by kernel_rfl)) (fun _ _ _ h => h) (Or.inl ⟨by rfl, ?_⟩) ?_ ?_
                         rotate_left
                         ·intro w'; go_simp
                          with_reducible rfl
                         rotate_left
                         ·simp only [Act.put, List.setIfInBounds_toArray, List.set_cons_zero, List.set_cons_succ, i64_w, i32_w]
                          rfl
                         refine pure_ (i := 22) (N := some 118) (v := ?_) (a' := ?_) pm54 rfl rfl (any_of HT_.out (by kernel_rfl)) (fun _ _ _ h => h) (Or.inl ⟨by rfl, ?_⟩) ?_ ?_
                         rotate_left
                         ·intro w'; go_simp
                          with_reducible rfl
                         rotate_left
                         ·simp only [Act.put, List.setIfInBounds_toArray, List.set_cons_zero, List.set_cons_succ, i64_w, i32_w]
                          rfl
                         refine pure_ (i := 23) (N := some 119) (v := ?_) (a' := ?_) pm55 rfl rfl (any_of HT_.out (by kernel_rfl)) (fun _ _ _ h => h) (Or.inl ⟨by rfl, ?_⟩) ?_ ?_
                         rotate_left
                         ·intro w'; go_simp
                          with_reducible rfl
                         rotate_left
                         ·simp only [Act.put, List.setIfInBounds_toArray, List.set_cons_zero, List.set_cons_succ, i64_w, i32_w]
                          rfl
                         refine pure_ (i := 24) (N := some 120) (v := ?_) (a' := ?_) pm56 rfl rfl (any_of HT_.out (by kernel_rfl)) (fun _ _ _ h => h) (Or.inl ⟨by rfl, ?_⟩) ?_ ?_
                         rotate_left
                         ·intro w'; go_simp
                          with_reducible rfl
                         rotate_left
                         ·simp only [Act.put, List.setIfInBounds_toArray, List.set_cons_zero, List.set_cons_succ, i64_w, i32_w]
                          rfl
                         refine pure_ (i := 27) (N := some 123) (v := ?_) (a' := ?_) pm57 rfl rfl (any_of HT_.out (by kernel_rfl)) (fun _ _ _ h => h) (Or.inl ⟨by rfl, ?_⟩) ?_ ?_
                         rotate_left
                         ·intro w'; go_simp
                          with_reducible rfl
                         rotate_left
                         ·simp only [Act.put, List.setIfInBounds_toArray, List.set_cons_zero, List.set_cons_succ, i64_w, i32_w]
                          rfl
                         refine take_ (i := 20) (N := some 116) (v := ?_) (a' := ?_) pm63 rfl rfl (take_ofW HT_.out HW_.out (by kernel_rfl)) (fun _ _ _ h => h) (Or.inl ⟨by rfl, ?_⟩) hHeld ?_ ?_
                         rotate_left
                         ·rintro w' ⟨s0, s1, s2⟩
                          go_simp
                          with_reducible rfl
                         rotate_left
                         ·simp only [Act.put, List.setIfInBounds_toArray, List.set_cons_zero, List.set_cons_succ, i64_w, i32_w]
                          rfl
                         refine take_ (i := 25) (N := some 121) (v := ?_) (a' := ?_) pm65 rfl rfl (take_ofW HT_.out HW_.out (by kernel_rfl)) (fun _ _ _ h => h) (Or.inl ⟨by rfl, ?_⟩) hHeld ?_ ?_
                         rotate_left
                         ·rintro w' ⟨s0, s1, s2⟩
                          go_simp
                          with_reducible rfl
                         rotate_left
                         ·simp only [Act.put, List.setIfInBounds_toArray, List.set_cons_zero, List.set_cons_succ, i64_w, i32_w]
                          rfl
                         refine pure_ (i := 26) (N := some 122) (v := ?_) (a' := ?_) pm67 rfl rfl (any_of HT_.out (by kernel_rfl)) (fun _ _ _ h => h) (Or.inl ⟨by rfl, ?_⟩) ?_ ?_
                         rotate_left
                         ·intro w'; go_simp
                          with_reducible rfl
                         rotate_left
                         ·simp only [Act.put, List.setIfInBounds_toArray, List.set_cons_zero, List.set_cons_succ, i64_w, i32_w]
                          rfl
                         refine pure_ (i := 28) (N := some 124) (v := ?_) (a' := ?_) pm68 rfl rfl (any_of HT_.out (by kernel_rfl)) (fun _ _ _ h => h) (Or.inl ⟨by rfl, ?_⟩) ?_ ?_
                         rotate_left
                         ·intro w'; go_simp
                          with_reducible rfl
                         rotate_left
                         ·simp only [Act.put, List.setIfInBounds_toArray, List.set_cons_zero, List.set_cons_succ, i64_w, i32_w]
                          rfl
                         refine pure_ (i := 29) (N := some 125) (v := ?_) (a' := ?_) pm69 rfl rfl (any_of HT_.out (by kernel_rfl)) (fun _ _ _ h => h) (Or.inl ⟨by rfl, ?_⟩) ?_ ?_
                         rotate_left
                         ·intro w'; go_simp
                          with_reducible rfl
                         rotate_left
                         ·simp only [Act.put, List.setIfInBounds_toArray, List.set_cons_zero, List.set_cons_succ, i64_w, i32_w]
                          rfl
                         refine done_ (done_of HT_.out (by kernel_rfl)) ?_
                         try go_wp2
                         subst hji37; go_meet
                         case rel => exact ⟨_, (decide ((wrap64 ((rd t182 (wrap64 ((x4_3.length : Int) - 1))) + (rd x4_3 (wrap64 ((x4_3.length : Int) - 1))))) > (wrap64 ((wrap64 (x5_3 + (wrap64 (t179 * (wrap64 ((x4_3.length : Int) - 1)))))) + t181)))), (by first | rfl | (simp; done) | (simp only [← hji37] <;> (first | rfl | (rw [tdiv_mx]; done) | simp)) | (simp [*]; done)), H', ⟨by have := HK1.out; have := HJ1.out; have := HK3.out; have := HJ4.out; have := HK5.out; first | omega | exact Nat.le_refl _⟩, ⟨by (with_reducible repeat (first | apply Kd.R_alloc | apply Kd.R_drewN | apply Kd.R_drew)); exact Kd.R_mono HO_4.out (fun _ hk => hk.2)⟩, ⟨by (with_reducible repeat (first | apply Kd.R_alloc | apply Kd.R_drewN | apply Kd.R_drew)); exact Kd.R_mono HO185.out (fun _ hk => hk.2)⟩, ⟨by repeat (first | (with_reducible first | exact HB.out | apply below_alloc | apply pw_below_drewN | apply below_drew1) | exact HB.out)⟩⟩
                        ·rw [if_neg c40] at H
                         exact absurd H (by simp)
                       ·rw [if_neg c39] at H
                        exact absurd H (by simp)
                      ·rw [if_neg c38] at H
                       exact absurd H (by simp)
                    ·rw [if_neg c33] at H
                     exact absurd H (by simp)
                   ·as_aux_lemma =>
                    rw [if_neg c32] at H
                    have c32b0 : ((t182.length : Int) == (x4_3.length : Int)) = false := beq_eq_false_iff_ne.mpr c32
                    have c32b1 : ((t182.length : Int) != (x4_3.length : Int)) = true := bne_iff_ne.mpr c32
                    have c32b2 : (t182.length == x4_3.length) = false := by first | simpa using c32 | (simp at c32 ⊢; omega)
                    have H' := Aside0.mk H
                    clear H
                    try go_wp2
                    have n0_ := Aside0.mk (Kd.R_drew HO_4.out); have n1_ := Aside0.mk (Kd.R_drew HO185.out); have n2_ := Aside0.mk (below_drew1 HB.out); clear HO_4; clear HO185; clear HB; have HO_4 := n0_; have HO185 := n1_; have HB := n2_; clear n0_ n1_ n2_
                    refine start_ (n := 30) (S := fun w' => True) (ds := []) pm0 (by kernel_rfl) rfl rfl trivial (fun hHeld => ?_); refine with_tabW pLaws.tab20 pLaws.bits20 (fun HT_ HW_ => ?_)
                    generalize w29.drew = w43 at HO_4 HO185 HB hHeld ⊢
                    refine pure_ (i := 0) (N := some 96) (v := ?_) (a' := ?_) pm3 rfl rfl (any_of HT_.out (by kernel_rfl)) (fun _ _ _ h => h) (Or.inl ⟨by rfl, ?_⟩) ?_ ?_
                    rotate_left
                    ·intro w'; go_simp
                     with_reducible rfl
                    rotate_left
                    ·simp only [Act.put, List.setIfInBounds_toArray, List.set_cons_zero, List.set_cons_succ, i64_w, i32_w]
                     rfl
                    refine one_ (i := 1) (N := some 97) pm6 rfl rfl (one_of HT_.out (by kernel_rfl)) (by decide) (fun K hK => ?_)
                    refine goes_ Try.func20 (by kernel_rfl) rfl #[.int .i64 t183] (by rfl) rfl rfl (by (try simp only [List.map_toArray, List.map_cons, List.map_nil]); first | done | rfl | (simp only [List.length_drop, List.length_take]; rfl)) ?_
                    with_reducible refine (arraslaw21_num.calls t183 t186 _ A30.out).mono ?_
                    rintro e w' ⟨rfl, ⟨nd, rfl⟩⟩
                    refine ⟨_, rfl, ?_⟩
                    obtain ⟨Ao44, co44, eo44⟩ := Kd.R_slice HO185.out
                    (first | subst eo44 | (injection eo44 with f1_ f2_ f3_; have f4_ := f1_.symm; have f5_ := f3_.symm; clear f1_ f2_ f3_; subst f4_; subst f5_))
                    refine hK.out _ _ trivial (fun hHeld => ?_)
                    clear hK K
                    refine norm_ (a' := ?_) ?_ ?_
                    rotate_left
                    ·show Act.put _ (some 97) _ = _
                     simp only [Act.put, List.setIfInBounds_toArray, List.set_cons_zero, List.set_cons_succ, i64_w, i32_w]
                     rfl
                    refine pure_ (i := 2) (N := some 98) (v := ?_) (a' := ?_) pm9 rfl rfl (any_of HT_.out (by kernel_rfl)) (fun _ _ _ h => h) (Or.inl ⟨by rfl, ?_⟩) ?_ ?_
                    rotate_left
                    ·intro w'; go_simp
                     with_reducible rfl
                    rotate_left
                    ·simp only [Act.put, List.setIfInBounds_toArray, List.set_cons_zero, List.set_cons_succ, i64_w, i32_w]
                     rfl
                    refine pure_ (i := 3) (N := some 99) (v := ?_) (a' := ?_) pm21 rfl rfl (any_of HT_.out (by kernel_rfl)) (fun _ _ _ h => h) (Or.inl ⟨by rfl, ?_⟩) ?_ ?_
                    rotate_left
                    ·intro w'; go_simp
                     with_reducible rfl
                    rotate_left
                    ·simp only [Act.put, List.setIfInBounds_toArray, List.set_cons_zero, List.set_cons_succ, i64_w, i32_w]
                     rfl
                    refine pure_ (i := 4) (N := some 100) (v := ?_) (a' := ?_) pm23 rfl rfl (any_of HT_.out (by kernel_rfl)) (fun _ _ _ h => h) (Or.inl ⟨by rfl, ?_⟩) ?_ ?_
                    rotate_left
                    ·intro w'; go_simp
                     with_reducible rfl
                    rotate_left
                    ·simp only [Act.put, List.setIfInBounds_toArray, List.set_cons_zero, List.set_cons_succ, i64_w, i32_w]
                     rfl
                    refine pure_ (i := 5) (N := some 101) (v := ?_) (a' := ?_) pm29 rfl rfl (any_of HT_.out (by kernel_rfl)) (fun _ _ _ h => h) (Or.inl ⟨by rfl, ?_⟩) ?_ ?_
                    rotate_left
                    ·intro w'; go_simp
                     with_reducible rfl
                    rotate_left
                    ·simp only [Act.put, List.setIfInBounds_toArray, List.set_cons_zero, List.set_cons_succ, i64_w, i32_w]
                     rfl
                    refine pure_ (i := 6) (N := some 102) (v := ?_) (a' := ?_) pm31 rfl rfl (any_of HT_.out (by kernel_rfl)) (fun _ _ _ h => h) (Or.inl ⟨by rfl, ?_⟩) ?_ ?_
                    rotate_left
                    ·intro w'; go_simp
                     with_reducible rfl
                    rotate_left
                    ·simp only [Act.put, List.setIfInBounds_toArray, List.set_cons_zero, List.set_cons_succ, i64_w, i32_w]
                     rfl
                    refine pure_ (i := 7) (N := some 103) (v := ?_) (a' := ?_) pm32 rfl rfl (any_of HT_.out (by kernel_rfl)) (fun _ _ _ h => h) (Or.inl ⟨by rfl, ?_⟩) ?_ ?_
                    rotate_left
                    ·intro w'; go_simp
                     with_reducible rfl
                    rotate_left
                    ·simp only [Act.put, List.setIfInBounds_toArray, List.set_cons_zero, List.set_cons_succ, i64_w, i32_w]
                     rfl
                    refine pure_ (i := 8) (N := some 104) (v := ?_) (a' := ?_) pm34 rfl rfl (any_of HT_.out (by kernel_rfl)) (fun _ _ _ h => h) (Or.inl ⟨by rfl, ?_⟩) ?_ ?_
                    rotate_left
                    ·intro w'; go_simp
                     with_reducible rfl
                    rotate_left
                    ·simp only [Act.put, List.setIfInBounds_toArray, List.set_cons_zero, List.set_cons_succ, i64_w, i32_w]
                     rfl
                    refine pure_ (i := 9) (N := some 105) (v := ?_) (a' := ?_) pm35 rfl rfl (any_of HT_.out (by kernel_rfl)) (fun _ _ _ h => h) (Or.inl ⟨by rfl, ?_⟩) ?_ ?_
                    rotate_left
                    ·intro w'; go_simp
                     with_reducible rfl
                    rotate_left
                    ·simp only [Act.put, List.setIfInBounds_toArray, List.set_cons_zero, List.set_cons_succ, i64_w, i32_w]
                     rfl
                    refine pure_ (i := 10) (N := some 106) (v := undef) (a' := ?_) pm36 rfl rfl (any_of HT_.out (by kernel_rfl)) (fun _ _ _ h => h) (Or.inr ⟨by rfl, rfl⟩) ?_ ?_
                    rotate_left
                    ·simp only [Act.put, List.setIfInBounds_toArray, List.set_cons_zero, List.set_cons_succ, i64_w, i32_w]
                     rfl
                    refine pure_ (i := 11) (N := some 107) (v := undef) (a' := ?_) pm38 rfl rfl (any_of HT_.out (by kernel_rfl)) (fun _ _ _ h => h) (Or.inr ⟨by rfl, rfl⟩) ?_ ?_
                    rotate_left
                    ·simp only [Act.put, List.setIfInBounds_toArray, List.set_cons_zero, List.set_cons_succ, i64_w, i32_w]
                     rfl
                    refine pure_ (i := 12) (N := some 108) (v := undef) (a' := ?_) pm40 rfl rfl (any_of HT_.out (by kernel_rfl)) (fun _ _ _ h => h) (Or.inr ⟨by rfl, rfl⟩) ?_ ?_
                    rotate_left
                    ·simp only [Act.put, List.setIfInBounds_toArray, List.set_cons_zero, List.set_cons_succ, i64_w, i32_w]
                     rfl
                    refine pure_ (i := 13) (N := some 109) (v := undef) (a' := ?_) pm43 rfl rfl (any_of HT_.out (by kernel_rfl)) (fun _ _ _ h => h) (Or.inr ⟨by rfl, rfl⟩) ?_ ?_
                    rotate_left
                    ·simp only [Act.put, List.setIfInBounds_toArray, List.set_cons_zero, List.set_cons_succ, i64_w, i32_w]
                     rfl
                    refine pure_ (i := 14) (N := some 110) (v := ?_) (a' := ?_) pm45 rfl rfl (any_of HT_.out (by kernel_rfl)) (fun _ _ _ h => h) (Or.inl ⟨by rfl, ?_⟩) ?_ ?_
                    rotate_left
                    ·intro w'; go_simp
                     with_reducible rfl
                    rotate_left
                    ·simp only [Act.put, List.setIfInBounds_toArray, List.set_cons_zero, List.set_cons_succ, i64_w, i32_w]
                     rfl
                    refine pure_ (i := 15) (N := some 111) (v := ?_) (a' := ?_) pm46 rfl rfl (any_of HT_.out (by kernel_rfl)) (fun _ _ _ h => h) (Or.inl ⟨by rfl, ?_⟩) ?_ ?_
                    rotate_left
                    ·intro w'; go_simp
                     with_reducible rfl
                    rotate_left
                    ·simp only [Act.put, List.setIfInBounds_toArray, List.set_cons_zero, List.set_cons_succ, i64_w, i32_w]
                     rfl
                    refine pure_ (i := 16) (N := some 112) (v := undef) (a' := ?_) pm48 rfl rfl (any_of HT_.out (by kernel_rfl)) (fun _ _ _ h => h) (Or.inr ⟨by rfl, rfl⟩) ?_ ?_
                    rotate_left
                    ·simp only [Act.put, List.setIfInBounds_toArray, List.set_cons_zero, List.set_cons_succ, i64_w, i32_w]
                     rfl
                    refine pure_ (i := 17) (N := some 113) (v := undef) (a' := ?_) pm50 rfl rfl (any_of HT_.out (by kernel_rfl)) (fun _ _ _ h => h) (Or.inr ⟨by rfl, rfl⟩) ?_ ?_
                    rotate_left
                    ·simp only [Act.put, List.setIfInBounds_toArray, List.set_cons_zero, List.set_cons_succ, i64_w, i32_w]
                     rfl
                    refine pure_ (i := 18) (N := some 114) (v := undef) (a' := ?_) pm51 rfl rfl (any_of HT_.out (by kernel_rfl)) (fun _ _ _ h => h) (Or.inr ⟨by rfl, rfl⟩) ?_ ?_
                    rotate_left
                    ·simp only [Act.put, List.setIfInBounds_toArray, List.set_cons_zero, List.set_cons_succ, i64_w, i32_w]
                     rfl
                    refine pure_ (i := 19) (N := some 115) (v := undef) (a' := ?_) pm52 rfl rfl (any_of HT_.out (by kernel_rfl)) (fun _ _ _ h => h) (Or.inr ⟨by rfl, rfl⟩) ?_ ?_
                    rotate_left
                    ·simp only [Act.put, List.setIfInBounds_toArray, List.set_cons_zero, List.set_cons_succ, i64_w, i32_w]
                     rfl
                    refine pure_ (i := 20) (N := some 116) (v := undef) (a' := ?_) pm58 rfl rfl (any_of HT_.out (by kernel_rfl)) (fun _ _ _ h => h) (Or.inr ⟨by rfl, rfl⟩) ?_ ?_
                    rotate_left
                    ·simp only [Act.put, List.setIfInBounds_toArray, List.set_cons_zero, List.set_cons_succ, i64_w, i32_w]
                     rfl
                    refine pure_ (i := 21) (N := some 117) (v := undef) (a' := ?_) pm59 rfl rfl (any_of HT_.out (by kernel_rfl)) (fun _ _ _ h => h) (Or.inr ⟨by rfl, rfl⟩) ?_ ?_
                    rotate_left
                    ·simp only [Act.put, List.setIfInBounds_toArray, List.set_cons_zero, List.set_cons_succ, i64_w, i32_w]
                     rfl
                    refine pure_ (i := 22) (N := some 118) (v := undef) (a' := ?_) pm60 rfl rfl (any_of HT_.out (by kernel_rfl)) (fun _ _ _ h => h) (Or.inr ⟨by rfl, rfl⟩) ?_ ?_
                    rotate_left
                    ·simp only [Act.put, List.setIfInBounds_toArray, List.set_cons_zero, List.set_cons_succ, i64_w, i32_w]
                     rfl
                    refine pure_ (i := 23) (N := some 119) (v := undef) (a' := ?_) pm61 rfl rfl (any_of HT_.out (by kernel_rfl)) (fun _ _ _ h => h) (Or.inr ⟨by rfl, rfl⟩) ?_ ?_
                    rotate_left
                    ·simp only [Act.put, List.setIfInBounds_toArray, List.set_cons_zero, List.set_cons_succ, i64_w, i32_w]
                     rfl
                    refine pure_ (i := 24) (N := some 120) (v := undef) (a' := ?_) pm62 rfl rfl (any_of HT_.out (by kernel_rfl)) (fun _ _ _ h => h) (Or.inr ⟨by rfl, rfl⟩) ?_ ?_
                    rotate_left
                    ·simp only [Act.put, List.setIfInBounds_toArray, List.set_cons_zero, List.set_cons_succ, i64_w, i32_w]
                     rfl
                    refine pure_ (i := 25) (N := some 121) (v := undef) (a' := ?_) pm64 rfl rfl (any_of HT_.out (by kernel_rfl)) (fun _ _ _ h => h) (Or.inr ⟨by rfl, rfl⟩) ?_ ?_
                    rotate_left
                    ·simp only [Act.put, List.setIfInBounds_toArray, List.set_cons_zero, List.set_cons_succ, i64_w, i32_w]
                     rfl
                    refine pure_ (i := 26) (N := some 122) (v := undef) (a' := ?_) pm66 rfl rfl (any_of HT_.out (by kernel_rfl)) (fun _ _ _ h => h) (Or.inr ⟨by rfl, rfl⟩) ?_ ?_
                    rotate_left
                    ·simp only [Act.put, List.setIfInBounds_toArray, List.set_cons_zero, List.set_cons_succ, i64_w, i32_w]
                     rfl
                    refine pure_ (i := 27) (N := some 123) (v := undef) (a' := ?_) pm67 rfl rfl (any_of HT_.out (by kernel_rfl)) (fun _ _ _ h => h) (Or.inr ⟨by rfl, rfl⟩) ?_ ?_
                    rotate_left
                    ·simp only [Act.put, List.setIfInBounds_toArray, List.set_cons_zero, List.set_cons_succ, i64_w, i32_w]
                     rfl
                    refine pure_ (i := 28) (N := some 124) (v := undef) (a' := ?_) pm68 rfl rfl (any_of HT_.out (by kernel_rfl)) (fun _ _ _ h => h) (Or.inr ⟨by rfl, rfl⟩) ?_ ?_
                    rotate_left
                    ·simp only [Act.put, List.setIfInBounds_toArray, List.set_cons_zero, List.set_cons_succ, i64_w, i32_w]
                     rfl
                    refine pure_ (i := 29) (N := some 125) (v := ?_) (a' := ?_) pm69 rfl rfl (any_of HT_.out (by kernel_rfl)) (fun _ _ _ h => h) (Or.inl ⟨by rfl, ?_⟩) ?_ ?_
                    rotate_left
                    ·intro w'; go_simp
                     with_reducible rfl
                    rotate_left
                    ·simp only [Act.put, List.setIfInBounds_toArray, List.set_cons_zero, List.set_cons_succ, i64_w, i32_w]
                     rfl
                    refine done_ (done_of HT_.out (by kernel_rfl)) ?_
                    try go_wp2
                    go_meet
                    case rel => exact ⟨_, (true), (by first | rfl | (simp; done) | (simp [*]; done)), H', ⟨by have := HK1.out; have := HJ1.out; have := HK3.out; have := HJ4.out; have := HK5.out; first | omega | exact Nat.le_refl _⟩, ⟨by (with_reducible repeat (first | apply Kd.R_alloc | apply Kd.R_drewN | apply Kd.R_drew)); exact Kd.R_mono HO_4.out (fun _ hk => hk.2)⟩, ⟨by (with_reducible repeat (first | apply Kd.R_alloc | apply Kd.R_drewN | apply Kd.R_drew)); exact Kd.R_mono HO185.out (fun _ hk => hk.2)⟩, ⟨by repeat (first | (with_reducible first | exact HB.out | apply below_alloc | apply pw_below_drewN | apply below_drew1) | exact HB.out)⟩⟩
                  ·as_aux_lemma =>
                   rw [if_neg c31] at H
                   have c31b0 : (t186 == 0) = false := beq_eq_false_iff_ne.mpr c31
                   have c31b1 : (t186 != 0) = true := bne_iff_ne.mpr c31
                   (first | rw [c31b0] | (simp only [i64_w, i32_w]; rw [c31b0]) | skip)
                   have H' := Aside0.mk H
                   clear H
                   try go_wp2
                   have n0_ := Aside0.mk (Kd.R_drew HO_4.out); have n1_ := Aside0.mk (Kd.R_drew HO185.out); have n2_ := Aside0.mk (below_drew1 HB.out); clear HO_4; clear HO185; clear HB; have HO_4 := n0_; have HO185 := n1_; have HB := n2_; clear n0_ n1_ n2_
                   refine start_ (n := 30) (S := fun w' => True) (ds := []) pm0 (by kernel_rfl) rfl rfl trivial (fun hHeld => ?_); refine with_tabW pLaws.tab20 pLaws.bits20 (fun HT_ HW_ => ?_)
                   generalize w29.drew = w45 at HO_4 HO185 HB hHeld ⊢
                   refine pure_ (i := 0) (N := some 96) (v := ?_) (a' := ?_) pm3 rfl rfl (any_of HT_.out (by kernel_rfl)) (fun _ _ _ h => h) (Or.inl ⟨by rfl, ?_⟩) ?_ ?_
                   rotate_left
                   ·intro w'; go_simp
                    with_reducible rfl
                   rotate_left
                   ·simp only [Act.put, List.setIfInBounds_toArray, List.set_cons_zero, List.set_cons_succ, i64_w, i32_w]
                    rfl
                   refine one_ (i := 1) (N := some 97) pm6 rfl rfl (one_of HT_.out (by kernel_rfl)) (by decide) (fun K hK => ?_)
                   refine goes_ Try.func20 (by kernel_rfl) rfl #[.int .i64 t183] (by rfl) rfl rfl (by (try simp only [List.map_toArray, List.map_cons, List.map_nil]); first | done | rfl | (simp only [List.length_drop, List.length_take]; rfl)) ?_
                   with_reducible refine (arraslaw21_num.calls t183 t186 _ A30.out).mono ?_
                   rintro e w' ⟨rfl, ⟨nd, rfl⟩⟩
                   refine ⟨_, rfl, ?_⟩
                   refine hK.out _ _ trivial (fun hHeld => ?_)
                   clear hK K
                   refine norm_ (a' := ?_) ?_ ?_
                   rotate_left
                   ·show Act.put _ (some 97) _ = _
                    simp only [Act.put, List.setIfInBounds_toArray, List.set_cons_zero, List.set_cons_succ, i64_w, i32_w]
                    rfl
                   refine pure_ (i := 2) (N := some 98) (v := ?_) (a' := ?_) pm9 rfl rfl (any_of HT_.out (by kernel_rfl)) (fun _ _ _ h => h) (Or.inl ⟨by rfl, ?_⟩) ?_ ?_
                   rotate_left
                   ·intro w'; go_simp
                    with_reducible rfl
                   rotate_left
                   ·simp only [Act.put, List.setIfInBounds_toArray, List.set_cons_zero, List.set_cons_succ, i64_w, i32_w]
                    rfl
                   refine pure_ (i := 3) (N := some 99) (v := ?_) (a' := ?_) pm21 rfl rfl (any_of HT_.out (by kernel_rfl)) (fun _ _ _ h => h) (Or.inl ⟨by rfl, ?_⟩) ?_ ?_
                   rotate_left
                   ·intro w'; go_simp
                    with_reducible rfl
                   rotate_left
                   ·simp only [Act.put, List.setIfInBounds_toArray, List.set_cons_zero, List.set_cons_succ, i64_w, i32_w]
                    rfl
                   refine pure_ (i := 4) (N := some 100) (v := undef) (a' := ?_) pm23 rfl rfl (any_of HT_.out (by kernel_rfl)) (fun _ _ _ h => h) (Or.inr ⟨by rfl, rfl⟩) ?_ ?_
                   rotate_left
                   ·simp only [Act.put, List.setIfInBounds_toArray, List.set_cons_zero, List.set_cons_succ, i64_w, i32_w]
                    rfl
                   refine pure_ (i := 5) (N := some 101) (v := undef) (a' := ?_) pm29 rfl rfl (any_of HT_.out (by kernel_rfl)) (fun _ _ _ h => h) (Or.inr ⟨by rfl, rfl⟩) ?_ ?_
                   rotate_left
                   ·simp only [Act.put, List.setIfInBounds_toArray, List.set_cons_zero, List.set_cons_succ, i64_w, i32_w]
                    rfl
                   refine pure_ (i := 6) (N := some 102) (v := undef) (a' := ?_) pm31 rfl rfl (any_of HT_.out (by kernel_rfl)) (fun _ _ _ h => h) (Or.inr ⟨by rfl, rfl⟩) ?_ ?_
                   rotate_left
                   ·simp only [Act.put, List.setIfInBounds_toArray, List.set_cons_zero, List.set_cons_succ, i64_w, i32_w]
                    rfl
                   refine pure_ (i := 7) (N := some 103) (v := undef) (a' := ?_) pm32 rfl rfl (any_of HT_.out (by kernel_rfl)) (fun _ _ _ h => h) (Or.inr ⟨by rfl, rfl⟩) ?_ ?_
                   rotate_left
                   ·simp only [Act.put, List.setIfInBounds_toArray, List.set_cons_zero, List.set_cons_succ, i64_w, i32_w]
                    rfl
                   refine pure_ (i := 8) (N := some 104) (v := ?_) (a' := ?_) pm34 rfl rfl (any_of HT_.out (by kernel_rfl)) (fun _ _ _ h => h) (Or.inl ⟨by rfl, ?_⟩) ?_ ?_
                   rotate_left
                   ·intro w'; go_simp
                    with_reducible rfl
                   rotate_left
                   ·simp only [Act.put, List.setIfInBounds_toArray, List.set_cons_zero, List.set_cons_succ, i64_w, i32_w]
                    rfl
                   refine pure_ (i := 9) (N := some 105) (v := ?_) (a' := ?_) pm35 rfl rfl (any_of HT_.out (by kernel_rfl)) (fun _ _ _ h => h) (Or.inl ⟨by rfl, ?_⟩) ?_ ?_
                   rotate_left
                   ·intro w'; go_simp
                    with_reducible rfl
                   rotate_left
                   ·simp only [Act.put, List.setIfInBounds_toArray, List.set_cons_zero, List.set_cons_succ, i64_w, i32_w]
                    rfl
                   refine pure_ (i := 10) (N := some 106) (v := undef) (a' := ?_) pm36 rfl rfl (any_of HT_.out (by kernel_rfl)) (fun _ _ _ h => h) (Or.inr ⟨by rfl, rfl⟩) ?_ ?_
                   rotate_left
                   ·simp only [Act.put, List.setIfInBounds_toArray, List.set_cons_zero, List.set_cons_succ, i64_w, i32_w]
                    rfl
                   refine pure_ (i := 11) (N := some 107) (v := undef) (a' := ?_) pm38 rfl rfl (any_of HT_.out (by kernel_rfl)) (fun _ _ _ h => h) (Or.inr ⟨by rfl, rfl⟩) ?_ ?_
                   rotate_left
                   ·simp only [Act.put, List.setIfInBounds_toArray, List.set_cons_zero, List.set_cons_succ, i64_w, i32_w]
                    rfl
                   refine pure_ (i := 12) (N := some 108) (v := undef) (a' := ?_) pm40 rfl rfl (any_of HT_.out (by kernel_rfl)) (fun _ _ _ h => h) (Or.inr ⟨by rfl, rfl⟩) ?_ ?_
                   rotate_left
                   ·simp only [Act.put, List.setIfInBounds_toArray, List.set_cons_zero, List.set_cons_succ, i64_w, i32_w]
                    rfl
                   refine pure_ (i := 13) (N := some 109) (v := undef) (a' := ?_) pm43 rfl rfl (any_of HT_.out (by kernel_rfl)) (fun _ _ _ h => h) (Or.inr ⟨by rfl, rfl⟩) ?_ ?_
                   rotate_left
                   ·simp only [Act.put, List.setIfInBounds_toArray, List.set_cons_zero, List.set_cons_succ, i64_w, i32_w]
                    rfl
                   refine pure_ (i := 14) (N := some 110) (v := ?_) (a' := ?_) pm45 rfl rfl (any_of HT_.out (by kernel_rfl)) (fun _ _ _ h => h) (Or.inl ⟨by rfl, ?_⟩) ?_ ?_
                   rotate_left
                   ·intro w'; go_simp
                    with_reducible rfl
                   rotate_left
                   ·simp only [Act.put, List.setIfInBounds_toArray, List.set_cons_zero, List.set_cons_succ, i64_w, i32_w]
                    rfl
                   refine pure_ (i := 15) (N := some 111) (v := ?_) (a' := ?_) pm46 rfl rfl (any_of HT_.out (by kernel_rfl)) (fun _ _ _ h => h) (Or.inl ⟨by rfl, ?_⟩) ?_ ?_
                   rotate_left
                   ·intro w'; go_simp
                    with_reducible rfl
                   rotate_left
                   ·simp only [Act.put, List.setIfInBounds_toArray, List.set_cons_zero, List.set_cons_succ, i64_w, i32_w]
                    rfl
                   refine pure_ (i := 16) (N := some 112) (v := undef) (a' := ?_) pm48 rfl rfl (any_of HT_.out (by kernel_rfl)) (fun _ _ _ h => h) (Or.inr ⟨by rfl, rfl⟩) ?_ ?_
                   rotate_left
                   ·simp only [Act.put, List.setIfInBounds_toArray, List.set_cons_zero, List.set_cons_succ, i64_w, i32_w]
                    rfl
                   refine pure_ (i := 17) (N := some 113) (v := undef) (a' := ?_) pm50 rfl rfl (any_of HT_.out (by kernel_rfl)) (fun _ _ _ h => h) (Or.inr ⟨by rfl, rfl⟩) ?_ ?_
                   rotate_left
                   ·simp only [Act.put, List.setIfInBounds_toArray, List.set_cons_zero, List.set_cons_succ, i64_w, i32_w]
                    rfl
                   refine pure_ (i := 18) (N := some 114) (v := undef) (a' := ?_) pm51 rfl rfl (any_of HT_.out (by kernel_rfl)) (fun _ _ _ h => h) (Or.inr ⟨by rfl, rfl⟩) ?_ ?_
                   rotate_left
                   ·simp only [Act.put, List.setIfInBounds_toArray, List.set_cons_zero, List.set_cons_succ, i64_w, i32_w]
                    rfl
                   refine pure_ (i := 19) (N := some 115) (v := undef) (a' := ?_) pm52 rfl rfl (any_of HT_.out (by kernel_rfl)) (fun _ _ _ h => h) (Or.inr ⟨by rfl, rfl⟩) ?_ ?_
                   rotate_left
                   ·simp only [Act.put, List.setIfInBounds_toArray, List.set_cons_zero, List.set_cons_succ, i64_w, i32_w]
                    rfl
                   refine pure_ (i := 20) (N := some 116) (v := undef) (a' := ?_) pm58 rfl rfl (any_of HT_.out (by kernel_rfl)) (fun _ _ _ h => h) (Or.inr ⟨by rfl, rfl⟩) ?_ ?_
                   rotate_left
                   ·simp only [Act.put, List.setIfInBounds_toArray, List.set_cons_zero, List.set_cons_succ, i64_w, i32_w]
                    rfl
                   refine pure_ (i := 21) (N := some 117) (v := undef) (a' := ?_) pm59 rfl rfl (any_of HT_.out (by kernel_rfl)) (fun _ _ _ h => h) (Or.inr ⟨by rfl, rfl⟩) ?_ ?_
                   rotate_left
                   ·simp only [Act.put, List.setIfInBounds_toArray, List.set_cons_zero, List.set_cons_succ, i64_w, i32_w]
                    rfl
                   refine pure_ (i := 22) (N := some 118) (v := undef) (a' := ?_) pm60 rfl rfl (any_of HT_.out (by kernel_rfl)) (fun _ _ _ h => h) (Or.inr ⟨by rfl, rfl⟩) ?_ ?_
                   rotate_left
                   ·simp only [Act.put, List.setIfInBounds_toArray, List.set_cons_zero, List.set_cons_succ, i64_w, i32_w]
                    rfl
                   refine pure_ (i := 23) (N := some 119) (v := undef) (a' := ?_) pm61 rfl rfl (any_of HT_.out (by kernel_rfl)) (fun _ _ _ h => h) (Or.inr ⟨by rfl, rfl⟩) ?_ ?_
                   rotate_left
                   ·simp only [Act.put, List.setIfInBounds_toArray, List.set_cons_zero, List.set_cons_succ, i64_w, i32_w]
                    rfl
                   refine pure_ (i := 24) (N := some 120) (v := undef) (a' := ?_) pm62 rfl rfl (any_of HT_.out (by kernel_rfl)) (fun _ _ _ h => h) (Or.inr ⟨by rfl, rfl⟩) ?_ ?_
                   rotate_left
                   ·simp only [Act.put, List.setIfInBounds_toArray, List.set_cons_zero, List.set_cons_succ, i64_w, i32_w]
                    rfl
                   refine pure_ (i := 25) (N := some 121) (v := undef) (a' := ?_) pm64 rfl rfl (any_of HT_.out (by kernel_rfl)) (fun _ _ _ h => h) (Or.inr ⟨by rfl, rfl⟩) ?_ ?_
                   rotate_left
                   ·simp only [Act.put, List.setIfInBounds_toArray, List.set_cons_zero, List.set_cons_succ, i64_w, i32_w]
                    rfl
                   refine pure_ (i := 26) (N := some 122) (v := undef) (a' := ?_) pm66 rfl rfl (any_of HT_.out (by kernel_rfl)) (fun _ _ _ h => h) (Or.inr ⟨by rfl, rfl⟩) ?_ ?_
                   rotate_left
                   ·simp only [Act.put, List.setIfInBounds_toArray, List.set_cons_zero, List.set_cons_succ, i64_w, i32_w]
                    rfl
                   refine pure_ (i := 27) (N := some 123) (v := undef) (a' := ?_) pm67 rfl rfl (any_of HT_.out (by kernel_rfl)) (fun _ _ _ h => h) (Or.inr ⟨by rfl, rfl⟩) ?_ ?_
                   rotate_left
                   ·simp only [Act.put, List.setIfInBounds_toArray, List.set_cons_zero, List.set_cons_succ, i64_w, i32_w]
                    rfl
                   refine pure_ (i := 28) (N := some 124) (v := undef) (a' := ?_) pm68 rfl rfl (any_of HT_.out (by kernel_rfl)) (fun _ _ _ h => h) (Or.inr ⟨by rfl, rfl⟩) ?_ ?_
                   rotate_left
                   ·simp only [Act.put, List.setIfInBounds_toArray, List.set_cons_zero, List.set_cons_succ, i64_w, i32_w]
                    rfl
                   refine pure_ (i := 29) (N := some 125) (v := ?_) (a' := ?_) pm69 rfl rfl (any_of HT_.out (by kernel_rfl)) (fun _ _ _ h => h) (Or.inl ⟨by rfl, ?_⟩) ?_ ?_
                   rotate_left
                   ·intro w'; go_simp
                    with_reducible rfl
                   rotate_left
                   ·simp only [Act.put, List.setIfInBounds_toArray, List.set_cons_zero, List.set_cons_succ, i64_w, i32_w]
                    rfl
                   refine done_ (done_of HT_.out (by kernel_rfl)) ?_
                   try go_wp2
                   go_meet
                   case rel => exact ⟨_, (true), (by first | rfl | (simp; done) | (simp [*]; done)), H', ⟨by have := HK1.out; have := HJ1.out; have := HK3.out; have := HJ4.out; have := HK5.out; first | omega | exact Nat.le_refl _⟩, ⟨by (with_reducible repeat (first | apply Kd.R_alloc | apply Kd.R_drewN | apply Kd.R_drew)); exact Kd.R_mono HO_4.out (fun _ hk => hk.2)⟩, ⟨by (with_reducible repeat (first | apply Kd.R_alloc | apply Kd.R_drewN | apply Kd.R_drew)); exact Kd.R_mono HO185.out (fun _ hk => hk.2)⟩, ⟨by repeat (first | (with_reducible first | exact HB.out | apply below_alloc | apply pw_below_drewN | apply below_drew1) | exact HB.out)⟩⟩
                 case rest => as_aux_lemma =>
                  clear HC28
                  try clear c2
                  try clear p2
                  try clear c3
                  try clear c4
                  try clear p6
                  try clear c20
                  try clear c31
                  try clear c31b0
                  try clear c31b1
                  try clear c32
                  try clear c32b0
                  try clear c32b1
                  try clear c32b2
                  try clear c33
                  try clear c38
                  try clear c39
                  try clear c40
                  obtain ⟨kq, x125_27, rfl, HA, HJ27, HO_4, HO_11, HB⟩ := hcut
                  cases kq with
                  | zero => exact absurd HA.out (by simp [pLaws.j5])
                  | succ kj27 =>
                   have H := HA.out
                   clear HA
                   simp only [pLaws.j5] at H
                   by_cases c46 : x125_27 = true
                   ·subst c46
                    have H1 : (some false) = some r := by rw [if_pos rfl] at H; exact H
                    clear H; have H := H1; clear H1
                    obtain rfl := Option.some.inj H
                    go_wp2
                    go_ret
                    exact ⟨by first | rfl | (simp [errW_none, errW_some] <;> rfl) | (simp [*, errW_none, errW_some] <;> rfl), by repeat (first | (with_reducible first | exact HB.out | apply below_alloc | apply pw_below_drewN | apply below_drew1) | exact HB.out)⟩
                   ·as_aux_lemma =>
                    replace c46 := Bool.eq_false_iff.mpr c46
                    subst c46
                    have H1 : (pLaws.l3 kj27 l0 x3_1 x4_3 t179 (x4_3.length : Int) (wrap64 ((wrap64 (x5_3 + (wrap64 (t179 * (wrap64 ((x4_3.length : Int) - 1)))))) + t181)) x10_5 t182 1) = some r := by rw [if_neg (show ¬ (false = true) by decide)] at H; exact H
                    clear H; have H := H1; clear H1
                    have H' := Aside0.mk H
                    clear H
                    go_wp2
                    go_loopg [13] kj27 (fun kq v13 w' => ∃ (x13_7 : Int), v13 = .int .i64 x13_7 ∧ Aside0 (pLaws.l3 kq l0 x3_1 x4_3 t179 (x4_3.length : Int) (wrap64 ((wrap64 (x5_3 + (wrap64 (t179 * (wrap64 ((x4_3.length : Int) - 1)))))) + t181)) x10_5 t182 x13_7 = some r) ∧ Aside0 (kq ≤ kj27) ∧ Aside0 (Kd.R (Kd.int .i64) 3 w' w.heap.size (fun k_ => some k_ ≠ (v184 : Value).ownBlock) (.slice Ao25 x4_3.length co25) x4_3) ∧ Aside0 (Kd.R (Kd.int .i64) 3 w' w.heap.size (fun k_ => some k_ ≠ ((.slice Ao25 x4_3.length co25) : Value).ownBlock) v184 t182) ∧ Aside0 (Below w.heap.size w w'))
                    case atStart => exact ⟨(1), (by first | rfl | (simp; done) | (simp [*]; done)), H', ⟨Nat.le_refl _⟩, ⟨by (with_reducible repeat (first | apply Kd.R_alloc | apply Kd.R_drewN | apply Kd.R_drew)); exact HO_4.out⟩, ⟨by (with_reducible repeat (first | apply Kd.R_alloc | apply Kd.R_drewN | apply Kd.R_drew)); exact HO_11.out⟩, ⟨by repeat (first | (with_reducible first | exact HB.out | apply below_alloc | apply pw_below_drewN | apply below_drew1) | exact HB.out)⟩⟩
                    case round => as_aux_lemma =>
                     clear H'
                     try clear c2
                     try clear p2
                     try clear c3
                     try clear c4
                     try clear p6
                     try clear c20
                     try clear c31
                     try clear c31b0
                     try clear c31b1
                     try clear c32
                     try clear c32b0
                     try clear c32b1
                     try clear c32b2
                     try clear c33
                     try clear c38
                     try clear c39
                     try clear c40
                     try clear c46
                     try clear p2
                     try clear p6
                     obtain ⟨x13_7, rfl, HA, HK7, HO_4, HO_11, HB⟩ := hrel
                     cases gk with
                     | zero => exact absurd HA.out (by simp [pLaws.l3])
                     | succ k7 =>
                      have H := HA.out
                      clear HA
                      simp only [pLaws.l3] at H
                      by_cases c47 : x13_7 < (x4_3.length : Int)
                      ·as_aux_lemma =>
                       rw [if_pos c47] at H
                       have c47b0 : decide (x13_7 < (x4_3.length : Int)) = true := decide_eq_true c47
                       clear c47
                       by_cases c48 : 0 ≤ x13_7
                       ·as_aux_lemma =>
                        rw [if_pos c48] at H
                        have c48b0 : decide (0 ≤ x13_7) = true := decide_eq_true c48
                        clear c48
                        by_cases c49 : x13_7 < (t182.length : Int)
                        ·as_aux_lemma =>
                         rw [if_pos c49] at H
                         have c49b0 : decide (x13_7 < (t182.length : Int)) = true := decide_eq_true c49
                         clear c49
                         obtain ⟨ji50, hji50⟩ : ∃ j_ : Int, (wrap64 (x13_7 - 1)) = j_ := ⟨_, rfl⟩
                         replace H : (if 0 ≤ (ji50) then (if (ji50) < (t182.length : Int) then (if (ji50) < (x4_3.length : Int) then (if (rd t182 x13_7) < (wrap64 ((wrap64 ((rd t182 (ji50)) + (rd x4_3 (ji50)))) + t179)) then (some false) else (pLaws.l3 k7 l0 x3_1 x4_3 t179 (x4_3.length : Int) (wrap64 ((wrap64 (x5_3 + (wrap64 (t179 * (wrap64 ((x4_3.length : Int) - 1)))))) + t181)) x10_5 t182 (wrap64 (x13_7 + 1)))) else (none)) else (none)) else (none)) = some r := by first | (rw [hji50] at H; exact H) | (simp only [hji50] at H ⊢; exact H)
                         have hji50w : (IntKind.i64.wrap (x13_7 - 1)) = ji50 := (i64_w _).trans hji50
                         by_cases c51 : 0 ≤ (ji50)
                         ·as_aux_lemma =>
                          rw [if_pos c51] at H
                          have c51b0 : decide (0 ≤ (ji50)) = true := decide_eq_true c51
                          clear c51
                          by_cases c52 : (ji50) < (t182.length : Int)
                          ·as_aux_lemma =>
                           rw [if_pos c52] at H
                           have c52b0 : decide ((ji50) < (t182.length : Int)) = true := decide_eq_true c52
                           clear c52
                           by_cases c53 : (ji50) < (x4_3.length : Int)
                           ·as_aux_lemma =>
                            rw [if_pos c53] at H
                            have c53b0 : decide ((ji50) < (x4_3.length : Int)) = true := decide_eq_true c53
                            clear c53
                            by_cases c54 : (rd t182 x13_7) < (wrap64 ((wrap64 ((rd t182 (ji50)) + (rd x4_3 (ji50)))) + t179))
                            ·as_aux_lemma =>
                             rw [if_pos c54] at H
                             have c54b0 : decide ((rd t182 x13_7) < (wrap64 ((wrap64 ((rd t182 (ji50)) + (rd x4_3 (ji50)))) + t179))) = true := decide_eq_true c54
                             clear c54
                             obtain rfl := Option.some.inj H
                             try go_wp2
                             have n0_ := Aside0.mk (Kd.R_drew HO_4.out); have n1_ := Aside0.mk (Kd.R_drew HO_11.out); have n2_ := Aside0.mk (below_drew1 HB.out); clear HO_4; clear HO_11; clear HB; have HO_4 := n0_; have HO_11 := n1_; have HB := n2_; clear n0_ n1_ n2_
                             obtain ⟨Ao56, co56, eo56⟩ := Kd.R_slice HO_11.out
                             (first | subst eo56 | (injection eo56 with f1_ f2_ f3_; have f4_ := f1_.symm; have f5_ := f3_.symm; clear f1_ f2_ f3_; subst f4_; subst f5_))
                             have p190 : 0 ≤ (x13_7 : Int) := of_decide_eq_true (by first | (with_reducible assumption) | assumption); have q190 : x13_7 < (t182.length : Int) := of_decide_eq_true (by first | (with_reducible assumption) | assumption); obtain ⟨ad190, e190, hx190_0⟩ := Kd.at_int (Kd.R_reads' HO_11.out).2.2 x13_7 p190 q190; cases e190; replace p190 := eq_true p190; replace q190 := eq_true q190; have p191 : 0 ≤ ((ji50) : Int) := of_decide_eq_true (by first | (with_reducible assumption) | assumption); have q191 : (ji50) < (t182.length : Int) := of_decide_eq_true (by first | (with_reducible assumption) | assumption); obtain ⟨ad191, e191, hx191_0⟩ := Kd.at_int (Kd.R_reads' HO_11.out).2.2 (ji50) p191 q191; obtain rfl : ad190 = ad191 := (by injection e191); replace p191 := eq_true p191; replace q191 := eq_true q191; have p192 : 0 ≤ ((ji50) : Int) := of_decide_eq_true (by first | (with_reducible assumption) | assumption); have q192 : (ji50) < (x4_3.length : Int) := of_decide_eq_true (by first | (with_reducible assumption) | assumption); obtain ⟨ad192, e192, hx192_0⟩ := Kd.at_int (Kd.R_reads' HO_4.out).2.2 (ji50) p192 q192; cases e192; replace p192 := eq_true p192; replace q192 := eq_true q192
                             refine start_ (n := 18) (S := fun w' => w'.cell? (ad190.add (x13_7).toNat) = some (.int .i64 (rd t182 x13_7)) ∧ w'.cell? (ad190.add ((ji50)).toNat) = some (.int .i64 (rd t182 (ji50))) ∧ w'.cell? (ad192.add ((ji50)).toNat) = some (.int .i64 (rd x4_3 (ji50)))) (ds := []) pm1 (by kernel_rfl) rfl rfl ⟨hx190_0, hx191_0, hx192_0⟩ (fun hHeld => ?_); refine with_tabW pLaws.tab25 pLaws.bits25 (fun HT_ HW_ => ?_)
                             generalize wr.drew = w55 at HO_4 HO_11 HB hx190_0 hx191_0 hx192_0 hHeld ⊢
                             refine pure_ (i := 0) (N := some 131) (v := ?_) (a' := ?_) pm4 rfl rfl (any_of HT_.out (by kernel_rfl)) (fun _ _ _ h => h) (Or.inl ⟨by rfl, ?_⟩) ?_ ?_
                             rotate_left
                             ·intro w'; go_simp
                              with_reducible rfl
                             rotate_left
                             ·simp only [Act.put, List.setIfInBounds_toArray, List.set_cons_zero, List.set_cons_succ, i64_w, i32_w]
                              rfl
                             refine pure_ (i := 1) (N := some 132) (v := ?_) (a' := ?_) pm7 rfl rfl (any_of HT_.out (by kernel_rfl)) (fun _ _ _ h => h) (Or.inl ⟨by rfl, ?_⟩) ?_ ?_
                             rotate_left
                             ·intro w'; go_simp
                              with_reducible rfl
                             rotate_left
                             ·simp only [Act.put, List.setIfInBounds_toArray, List.set_cons_zero, List.set_cons_succ, i64_w, i32_w]
                              rfl
                             refine pure_ (i := 2) (N := some 133) (v := ?_) (a' := ?_) pm10 rfl rfl (any_of HT_.out (by kernel_rfl)) (fun _ _ _ h => h) (Or.inl ⟨by rfl, ?_⟩) ?_ ?_
                             rotate_left
                             ·intro w'; go_simp
                              with_reducible rfl
                             rotate_left
                             ·simp only [Act.put, List.setIfInBounds_toArray, List.set_cons_zero, List.set_cons_succ, i64_w, i32_w]
                              rfl
                             refine pure_ (i := 4) (N := some 135) (v := ?_) (a' := ?_) pm12 rfl rfl (any_of HT_.out (by kernel_rfl)) (fun _ _ _ h => h) (Or.inl ⟨by rfl, ?_⟩) ?_ ?_
                             rotate_left
                             ·intro w'; go_simp
                              with_reducible rfl
                             rotate_left
                             ·simp only [Act.put, List.setIfInBounds_toArray, List.set_cons_zero, List.set_cons_succ, i64_w, i32_w]
                              rfl
                             refine pure_ (i := 5) (N := some 136) (v := ?_) (a' := ?_) pm13 rfl rfl (any_of HT_.out (by kernel_rfl)) (fun _ _ _ h => h) (Or.inl ⟨by rfl, ?_⟩) ?_ ?_
                             rotate_left
                             ·intro w'; go_simp
                              with_reducible rfl
                             rotate_left
                             ·simp only [Act.put, List.setIfInBounds_toArray, List.set_cons_zero, List.set_cons_succ, i64_w, i32_w]
                              rfl
                             refine pure_ (i := 6) (N := some 137) (v := ?_) (a' := ?_) pm14 rfl rfl (any_of HT_.out (by kernel_rfl)) (fun _ _ _ h => h) (Or.inl ⟨by rfl, ?_⟩) ?_ ?_
                             rotate_left
                             ·intro w'; go_simp
                              with_reducible rfl
                             rotate_left
                             ·simp only [Act.put, List.setIfInBounds_toArray, List.set_cons_zero, List.set_cons_succ, i64_w, i32_w]
                              rfl
                             refine pure_ (i := 7) (N := some 138) (v := ?_) (a' := ?_) pm15 rfl rfl (any_of HT_.out (by kernel_rfl)) (fun _ _ _ h => h) (Or.inl ⟨by rfl, ?_⟩) ?_ ?_
                             rotate_left
                             ·intro w'; go_simp
                              with_reducible rfl
                             rotate_left
                             ·simp only [Act.put, List.setIfInBounds_toArray, List.set_cons_zero, List.set_cons_succ, i64_w, i32_w]
                              rfl
                             refine pure_ (i := 9) (N := some 140) (v := ?_) (a' := ?_) pm16 rfl rfl (any_of HT_.out (by kernel_rfl)) (fun _ _ _ h => h) (Or.inl ⟨by rfl, ?_⟩) ?_ ?_
                             rotate_left
                             ·intro w'; go_simp
                              with_reducible rfl
                             rotate_left
                             ·simp only [Act.put, List.setIfInBounds_toArray, List.set_cons_zero, List.set_cons_succ, i64_w, i32_w]
                              rfl
                             refine pure_ (i := 10) (N := some 141) (v := ?_) (a' := ?_) pm17 rfl rfl (any_of HT_.out (by kernel_rfl)) (fun _ _ _ h => h) (Or.inl ⟨by rfl, ?_⟩) ?_ ?_
                             rotate_left
                             ·intro w'; go_simp
                              with_reducible rfl
                             rotate_left
                             ·simp only [Act.put, List.setIfInBounds_toArray, List.set_cons_zero, List.set_cons_succ, i64_w, i32_w]
                              rfl
                             refine pure_ (i := 11) (N := some 142) (v := ?_) (a' := ?_) pm18 rfl rfl (any_of HT_.out (by kernel_rfl)) (fun _ _ _ h => h) (Or.inl ⟨by rfl, ?_⟩) ?_ ?_
                             rotate_left
                             ·intro w'; go_simp
                              with_reducible rfl
                             rotate_left
                             ·simp only [Act.put, List.setIfInBounds_toArray, List.set_cons_zero, List.set_cons_succ, i64_w, i32_w]
                              rfl
                             refine pure_ (i := 12) (N := some 143) (v := ?_) (a' := ?_) pm19 rfl rfl (any_of HT_.out (by kernel_rfl)) (fun _ _ _ h => h) (Or.inl ⟨by rfl, ?_⟩) ?_ ?_
                             rotate_left
                             ·intro w'; go_simp
                              with_reducible rfl
                             rotate_left
                             ·simp only [Act.put, List.setIfInBounds_toArray, List.set_cons_zero, List.set_cons_succ, i64_w, i32_w]
                              rfl
                             refine pure_ (i := 15) (N := some 146) (v := ?_) (a' := ?_) pm20 rfl rfl (any_of HT_.out (by kernel_rfl)) (fun _ _ _ h => h) (Or.inl ⟨by rfl, ?_⟩) ?_ ?_
                             rotate_left
                             ·intro w'; go_simp
                              with_reducible rfl
                             rotate_left
                             ·simp only [Act.put, List.setIfInBounds_toArray, List.set_cons_zero, List.set_cons_succ, i64_w, i32_w]
                              rfl
                             refine take_ (i := 3) (N := some 134) (v := ?_) (a' := ?_) pm33 rfl rfl (take_ofW HT_.out HW_.out (by kernel_rfl)) (fun _ _ _ h => h) (Or.inl ⟨by rfl, ?_⟩) hHeld ?_ ?_
                             rotate_left
                             ·rintro w' ⟨s0, s1, s2⟩
                              go_simp
                              with_reducible rfl
                             rotate_left
                             ·simp only [Act.put, List.setIfInBounds_toArray, List.set_cons_zero, List.set_cons_succ, i64_w, i32_w]
                              rfl
                             refine take_ (i := 8) (N := some 139) (v := ?_) (a' := ?_) pm41 rfl rfl (take_ofW HT_.out HW_.out (by kernel_rfl)) (fun _ _ _ h => h) (Or.inl ⟨by rfl, ?_⟩) hHeld ?_ ?_
                             rotate_left
                             ·rintro w' ⟨s0, s1, s2⟩
                              go_simp
                              with_reducible rfl
                             rotate_left
                             ·simp only [Act.put, List.setIfInBounds_toArray, List.set_cons_zero, List.set_cons_succ, i64_w, i32_w]
                              rfl
                             refine take_ (i := 13) (N := some 144) (v := ?_) (a' := ?_) pm44 rfl rfl (take_ofW HT_.out HW_.out (by kernel_rfl)) (fun _ _ _ h => h) (Or.inl ⟨by rfl, ?_⟩) hHeld ?_ ?_
                             rotate_left
                             ·rintro w' ⟨s0, s1, s2⟩
                              go_simp
                              with_reducible rfl
                             rotate_left
                             ·simp only [Act.put, List.setIfInBounds_toArray, List.set_cons_zero, List.set_cons_succ, i64_w, i32_w]
                              rfl
                             refine pure_ (i := 14) (N := some 145) (v := ?_) (a' := ?_) pm47 rfl rfl (any_of HT_.out (by kernel_rfl)) (fun _ _ _ h => h) (Or.inl ⟨by rfl, ?_⟩) ?_ ?_
                             rotate_left
                             ·intro w'; go_simp
                              with_reducible rfl
                             rotate_left
                             ·simp only [Act.put, List.setIfInBounds_toArray, List.set_cons_zero, List.set_cons_succ, i64_w, i32_w]
                              rfl
                             refine pure_ (i := 16) (N := some 147) (v := ?_) (a' := ?_) pm49 rfl rfl (any_of HT_.out (by kernel_rfl)) (fun _ _ _ h => h) (Or.inl ⟨by rfl, ?_⟩) ?_ ?_
                             rotate_left
                             ·intro w'; go_simp
                              with_reducible rfl
                             rotate_left
                             ·simp only [Act.put, List.setIfInBounds_toArray, List.set_cons_zero, List.set_cons_succ, i64_w, i32_w]
                              rfl
                             refine pure_ (i := 17) (N := some 148) (v := ?_) (a' := ?_) pm70 rfl rfl (any_of HT_.out (by kernel_rfl)) (fun _ _ _ h => h) (Or.inl ⟨by rfl, ?_⟩) ?_ ?_
                             rotate_left
                             ·intro w'; go_simp
                              with_reducible rfl
                             rotate_left
                             ·simp only [Act.put, List.setIfInBounds_toArray, List.set_cons_zero, List.set_cons_succ, i64_w, i32_w]
                              rfl
                             refine done_ (done_of HT_.out (by kernel_rfl)) ?_
                             try go_wp2
                             go_ret
                             exact ⟨by first | rfl | (simp [errW_none, errW_some] <;> rfl) | (simp only [← hji50]; first | rfl | (simp [errW_none, errW_some] <;> rfl)) | (simp [*, errW_none, errW_some] <;> rfl), by repeat (first | (with_reducible first | exact HB.out | apply below_alloc | apply pw_below_drewN | apply below_drew1) | exact HB.out)⟩
                            ·as_aux_lemma =>
                             rw [if_neg c54] at H
                             have c54b0 : decide ((rd t182 x13_7) < (wrap64 ((wrap64 ((rd t182 (ji50)) + (rd x4_3 (ji50)))) + t179))) = false := decide_eq_false c54
                             clear c54
                             have H' := Aside0.mk H
                             clear H
                             try go_wp2
                             have n0_ := Aside0.mk (Kd.R_drew HO_4.out); have n1_ := Aside0.mk (Kd.R_drew HO_11.out); have n2_ := Aside0.mk (below_drew1 HB.out); clear HO_4; clear HO_11; clear HB; have HO_4 := n0_; have HO_11 := n1_; have HB := n2_; clear n0_ n1_ n2_
                             obtain ⟨Ao58, co58, eo58⟩ := Kd.R_slice HO_11.out
                             (first | subst eo58 | (injection eo58 with f1_ f2_ f3_; have f4_ := f1_.symm; have f5_ := f3_.symm; clear f1_ f2_ f3_; subst f4_; subst f5_))
                             have p190 : 0 ≤ (x13_7 : Int) := of_decide_eq_true (by first | (with_reducible assumption) | assumption); have q190 : x13_7 < (t182.length : Int) := of_decide_eq_true (by first | (with_reducible assumption) | assumption); obtain ⟨ad190, e190, hx190_0⟩ := Kd.at_int (Kd.R_reads' HO_11.out).2.2 x13_7 p190 q190; cases e190; replace p190 := eq_true p190; replace q190 := eq_true q190; have p191 : 0 ≤ ((ji50) : Int) := of_decide_eq_true (by first | (with_reducible assumption) | assumption); have q191 : (ji50) < (t182.length : Int) := of_decide_eq_true (by first | (with_reducible assumption) | assumption); obtain ⟨ad191, e191, hx191_0⟩ := Kd.at_int (Kd.R_reads' HO_11.out).2.2 (ji50) p191 q191; obtain rfl : ad190 = ad191 := (by injection e191); replace p191 := eq_true p191; replace q191 := eq_true q191; have p192 : 0 ≤ ((ji50) : Int) := of_decide_eq_true (by first | (with_reducible assumption) | assumption); have q192 : (ji50) < (x4_3.length : Int) := of_decide_eq_true (by first | (with_reducible assumption) | assumption); obtain ⟨ad192, e192, hx192_0⟩ := Kd.at_int (Kd.R_reads' HO_4.out).2.2 (ji50) p192 q192; cases e192; replace p192 := eq_true p192; replace q192 := eq_true q192
                             refine start_ (n := 18) (S := fun w' => w'.cell? (ad190.add (x13_7).toNat) = some (.int .i64 (rd t182 x13_7)) ∧ w'.cell? (ad190.add ((ji50)).toNat) = some (.int .i64 (rd t182 (ji50))) ∧ w'.cell? (ad192.add ((ji50)).toNat) = some (.int .i64 (rd x4_3 (ji50)))) (ds := []) pm1 (by kernel_rfl) rfl rfl ⟨hx190_0, hx191_0, hx192_0⟩ (fun hHeld => ?_); refine with_tabW pLaws.tab25 pLaws.bits25 (fun HT_ HW_ => ?_)
                             generalize wr.drew = w57 at HO_4 HO_11 HB hx190_0 hx191_0 hx192_0 hHeld ⊢
                             refine pure_ (i := 0) (N := some 131) (v := ?_) (a' := ?_) pm4 rfl rfl (any_of HT_.out (by kernel_rfl)) (fun _ _ _ h => h) (Or.inl ⟨by rfl, ?_⟩) ?_ ?_
                             rotate_left
                             ·intro w'; go_simp
                              with_reducible rfl
                             rotate_left
                             ·simp only [Act.put, List.setIfInBounds_toArray, List.set_cons_zero, List.set_cons_succ, i64_w, i32_w]
                              rfl
                             refine pure_ (i := 1) (N := some 132) (v := ?_) (a' := ?_) pm7 rfl rfl (any_of HT_.out (by kernel_rfl)) (fun _ _ _ h => h) (Or.inl ⟨by rfl, ?_⟩) ?_ ?_
                             rotate_left
                             ·intro w'; go_simp
                              with_reducible rfl
                             rotate_left
                             ·simp only [Act.put, List.setIfInBounds_toArray, List.set_cons_zero, List.set_cons_succ, i64_w, i32_w]
                              rfl
                             refine pure_ (i := 2) (N := some 133) (v := ?_) (a' := ?_) pm10 rfl rfl (any_of HT_.out (by kernel_rfl)) (fun _ _ _ h => h) (Or.inl ⟨by rfl, ?_⟩) ?_ ?_
                             rotate_left
                             ·intro w'; go_simp
                              with_reducible rfl
                             rotate_left
                             ·simp only [Act.put, List.setIfInBounds_toArray, List.set_cons_zero, List.set_cons_succ, i64_w, i32_w]
                              rfl
                             refine pure_ (i := 4) (N := some 135) (v := ?_) (a' := ?_) pm12 rfl rfl (any_of HT_.out (by kernel_rfl)) (fun _ _ _ h => h) (Or.inl ⟨by rfl, ?_⟩) ?_ ?_
                             rotate_left
                             ·intro w'; go_simp
                              with_reducible rfl
                             rotate_left
                             ·simp only [Act.put, List.setIfInBounds_toArray, List.set_cons_zero, List.set_cons_succ, i64_w, i32_w]
                              rfl
                             refine pure_ (i := 5) (N := some 136) (v := ?_) (a' := ?_) pm13 rfl rfl (any_of HT_.out (by kernel_rfl)) (fun _ _ _ h => h) (Or.inl ⟨by rfl, ?_⟩) ?_ ?_
                             rotate_left
                             ·intro w'; go_simp
                              with_reducible rfl
                             rotate_left
                             ·simp only [Act.put, List.setIfInBounds_toArray, List.set_cons_zero, List.set_cons_succ, i64_w, i32_w]
                              rfl
                             refine pure_ (i := 6) (N := some 137) (v := ?_) (a' := ?_) pm14 rfl rfl (any_of HT_.out (by kernel_rfl)) (fun _ _ _ h => h) (Or.inl ⟨by rfl, ?_⟩) ?_ ?_
                             rotate_left
                             ·intro w'; go_simp
                              with_reducible rfl
                             rotate_left
                             ·simp only [Act.put, List.setIfInBounds_toArray, List.set_cons_zero, List.set_cons_succ, i64_w, i32_w]
                              rfl
                             refine pure_ (i := 7) (N := some 138) (v := ?_) (a' := ?_) pm15 rfl rfl (any_of HT_.out (by kernel_rfl)) (fun _ _ _ h => h) (Or.inl ⟨by rfl, ?_⟩) ?_ ?_
                             rotate_left
                             ·intro w'; go_simp
                              with_reducible rfl
                             rotate_left
                             ·simp only [Act.put, List.setIfInBounds_toArray, List.set_cons_zero, List.set_cons_succ, i64_w, i32_w]
                              rfl
                             refine pure_ (i := 9) (N := some 140) (v := ?_) (a' := ?_) pm16 rfl rfl (any_of HT_.out (by kernel_rfl)) (fun _ _ _ h => h) (Or.inl ⟨by rfl, ?_⟩) ?_ ?_
                             rotate_left
                             ·intro w'; go_simp
                              with_reducible rfl
                             rotate_left
                             ·simp only [Act.put, List.setIfInBounds_toArray, List.set_cons_zero, List.set_cons_succ, i64_w, i32_w]
                              rfl
                             refine pure_ (i := 10) (N := some 141) (v := ?_) (a' := ?_) pm17 rfl rfl (any_of HT_.out (by kernel_rfl)) (fun _ _ _ h => h) (Or.inl ⟨by rfl, ?_⟩) ?_ ?_
                             rotate_left
                             ·intro w'; go_simp
                              with_reducible rfl
                             rotate_left
                             ·simp only [Act.put, List.setIfInBounds_toArray, List.set_cons_zero, List.set_cons_succ, i64_w, i32_w]
                              rfl
                             refine pure_ (i := 11) (N := some 142) (v := ?_) (a' := ?_) pm18 rfl rfl (any_of HT_.out (by kernel_rfl)) (fun _ _ _ h => h) (Or.inl ⟨by rfl, ?_⟩) ?_ ?_
                             rotate_left
                             ·intro w'; go_simp
                              with_reducible rfl
                             rotate_left
                             ·simp only [Act.put, List.setIfInBounds_toArray, List.set_cons_zero, List.set_cons_succ, i64_w, i32_w]
                              rfl
                             refine pure_ (i := 12) (N := some 143) (v := ?_) (a' := ?_) pm19 rfl rfl (any_of HT_.out (by kernel_rfl)) (fun _ _ _ h => h) (Or.inl ⟨by rfl, ?_⟩) ?_ ?_
                             rotate_left
                             ·intro w'; go_simp
                              with_reducible rfl
                             rotate_left
                             ·simp only [Act.put, List.setIfInBounds_toArray, List.set_cons_zero, List.set_cons_succ, i64_w, i32_w]
                              rfl
                             refine pure_ (i := 15) (N := some 146) (v := ?_) (a' := ?_) pm20 rfl rfl (any_of HT_.out (by kernel_rfl)) (fun _ _ _ h => h) (Or.inl ⟨by rfl, ?_⟩) ?_ ?_
                             rotate_left
                             ·intro w'; go_simp
                              with_reducible rfl
                             rotate_left
                             ·simp only [Act.put, List.setIfInBounds_toArray, List.set_cons_zero, List.set_cons_succ, i64_w, i32_w]
                              rfl
                             refine take_ (i := 3) (N := some 134) (v := ?_) (a' := ?_) pm33 rfl rfl (take_ofW HT_.out HW_.out (by kernel_rfl)) (fun _ _ _ h => h) (Or.inl ⟨by rfl, ?_⟩) hHeld ?_ ?_
                             rotate_left
                             ·rintro w' ⟨s0, s1, s2⟩
                              go_simp
                              with_reducible rfl
                             rotate_left
                             ·simp only [Act.put, List.setIfInBounds_toArray, List.set_cons_zero, List.set_cons_succ, i64_w, i32_w]
                              rfl
                             refine take_ (i := 8) (N := some 139) (v := ?_) (a' := ?_) pm41 rfl rfl (take_ofW HT_.out HW_.out (by kernel_rfl)) (fun _ _ _ h => h) (Or.inl ⟨by rfl, ?_⟩) hHeld ?_ ?_
                             rotate_left
                             ·rintro w' ⟨s0, s1, s2⟩
                              go_simp
                              with_reducible rfl
                             rotate_left
                             ·simp only [Act.put, List.setIfInBounds_toArray, List.set_cons_zero, List.set_cons_succ, i64_w, i32_w]
                              rfl
                             refine take_ (i := 13) (N := some 144) (v := ?_) (a' := ?_) pm44 rfl rfl (take_ofW HT_.out HW_.out (by kernel_rfl)) (fun _ _ _ h => h) (Or.inl ⟨by rfl, ?_⟩) hHeld ?_ ?_
                             rotate_left
                             ·rintro w' ⟨s0, s1, s2⟩
                              go_simp
                              with_reducible rfl
                             rotate_left
                             ·simp only [Act.put, List.setIfInBounds_toArray, List.set_cons_zero, List.set_cons_succ, i64_w, i32_w]
                              rfl
                             refine pure_ (i := 14) (N := some 145) (v := ?_) (a' := ?_) pm47 rfl rfl (any_of HT_.out (by kernel_rfl)) (fun _ _ _ h => h) (Or.inl ⟨by rfl, ?_⟩) ?_ ?_
                             rotate_left
                             ·intro w'; go_simp
                              with_reducible rfl
                             rotate_left
                             ·simp only [Act.put, List.setIfInBounds_toArray, List.set_cons_zero, List.set_cons_succ, i64_w, i32_w]
                              rfl
                             refine pure_ (i := 16) (N := some 147) (v := ?_) (a' := ?_) pm49 rfl rfl (any_of HT_.out (by kernel_rfl)) (fun _ _ _ h => h) (Or.inl ⟨by rfl, ?_⟩) ?_ ?_
                             rotate_left
                             ·intro w'; go_simp
                              with_reducible rfl
                             rotate_left
                             ·simp only [Act.put, List.setIfInBounds_toArray, List.set_cons_zero, List.set_cons_succ, i64_w, i32_w]
                              rfl
                             refine pure_ (i := 17) (N := some 148) (v := ?_) (a' := ?_) pm70 rfl rfl (any_of HT_.out (by kernel_rfl)) (fun _ _ _ h => h) (Or.inl ⟨by rfl, ?_⟩) ?_ ?_
                             rotate_left
                             ·intro w'; go_simp
                              with_reducible rfl
                             rotate_left
                             ·simp only [Act.put, List.setIfInBounds_toArray, List.set_cons_zero, List.set_cons_succ, i64_w, i32_w]
                              rfl
                             refine done_ (done_of HT_.out (by kernel_rfl)) ?_
                             try go_wp2
                             go_roundg k7
                             case measure => have := HK1.out; have := HJ1.out; have := HK3.out; have := HJ4.out; have := HK5.out; have := HJ27.out; have := HK7.out; omega
                             case rel => exact ⟨(wrap64 (x13_7 + 1)), (by first | rfl | (simp; done) | (simp [*]; done)), H', ⟨by have := HK1.out; have := HJ1.out; have := HK3.out; have := HJ4.out; have := HK5.out; have := HJ27.out; have := HK7.out; omega⟩, ⟨by (with_reducible repeat (first | apply Kd.R_alloc | apply Kd.R_drewN | apply Kd.R_drew)); exact HO_4.out⟩, ⟨by (with_reducible repeat (first | apply Kd.R_alloc | apply Kd.R_drewN | apply Kd.R_drew)); exact HO_11.out⟩, ⟨by repeat (first | (with_reducible first | exact HB.out | apply below_alloc | apply pw_below_drewN | apply below_drew1) | exact HB.out)⟩⟩
                           ·rw [if_neg c53] at H
                            exact absurd H (by simp)
                          ·rw [if_neg c52] at H
                           exact absurd H (by simp)
                         ·rw [if_neg c51] at H
                          exact absurd H (by simp)
                        ·rw [if_neg c49] at H
                         exact absurd H (by simp)
                       ·rw [if_neg c48] at H
                        exact absurd H (by simp)
                      ·as_aux_lemma =>
                       rw [if_neg c47] at H
                       have c47b0 : decide (x13_7 < (x4_3.length : Int)) = false := decide_eq_false c47
                       clear c47
                       obtain ⟨ji59, hji59⟩ : ∃ j_ : Int, (wrap64 ((x4_3.length : Int) - 1)) = j_ := ⟨_, rfl⟩
                       replace H : (if 0 ≤ (ji59) then (if (ji59) < (t182.length : Int) then (if (ji59) < (x4_3.length : Int) then (if x10_5 = 0 then (if 0 < (t182.length : Int) then (if (rd t182 0) = 0 then (if x10_5 = 1 then (if (wrap64 ((wrap64 ((wrap64 ((wrap64 (x5_3 + (wrap64 (t179 * (ji59))))) + t181)) - (rd t182 (ji59)))) - (rd x4_3 (ji59)))) = 0 then (if x10_5 = 2 then (if (wrap64 ((wrap64 ((wrap64 ((wrap64 (x5_3 + (wrap64 (t179 * (ji59))))) + t181)) - (rd t182 (ji59)))) - (rd x4_3 (ji59)))) < (rd t182 0) then (pLaws.j7 k7 l0 x3_1 x4_3 t179 (x4_3.length : Int) (wrap64 ((wrap64 (x5_3 + (wrap64 (t179 * (ji59))))) + t181)) x10_5 true) else (if (wrap64 ((wrap64 ((wrap64 ((wrap64 (x5_3 + (wrap64 (t179 * (ji59))))) + t181)) - (rd t182 (ji59)))) - (rd x4_3 (ji59)))) > (wrap64 ((rd t182 0) + 1)) then (pLaws.j7 k7 l0 x3_1 x4_3 t179 (x4_3.length : Int) (wrap64 ((wrap64 (x5_3 + (wrap64 (t179 * (ji59))))) + t181)) x10_5 true) else (if x10_5 = 3 then (if (x4_3.length : Int) > 1 then (pLaws.j7 k7 l0 x3_1 x4_3 t179 (x4_3.length : Int) (wrap64 ((wrap64 (x5_3 + (wrap64 (t179 * (ji59))))) + t181)) x10_5 (decide ((wrap64 ((wrap64 ((wrap64 ((wrap64 (x5_3 + (wrap64 (t179 * (ji59))))) + t181)) - (rd t182 (ji59)))) - (rd x4_3 (ji59)))) ≥ (ji59)))) else (pLaws.j7 k7 l0 x3_1 x4_3 t179 (x4_3.length : Int) (wrap64 ((wrap64 (x5_3 + (wrap64 (t179 * (ji59))))) + t181)) x10_5 false)) else (pLaws.j7 k7 l0 x3_1 x4_3 t179 (x4_3.length : Int) (wrap64 ((wrap64 (x5_3 + (wrap64 (t179 * (ji59))))) + t181)) x10_5 false)))) else (if x10_5 = 3 then (if (x4_3.length : Int) > 1 then (pLaws.j7 k7 l0 x3_1 x4_3 t179 (x4_3.length : Int) (wrap64 ((wrap64 (x5_3 + (wrap64 (t179 * (ji59))))) + t181)) x10_5 (decide ((wrap64 ((wrap64 ((wrap64 ((wrap64 (x5_3 + (wrap64 (t179 * (ji59))))) + t181)) - (rd t182 (ji59)))) - (rd x4_3 (ji59)))) ≥ (ji59)))) else (pLaws.j7 k7 l0 x3_1 x4_3 t179 (x4_3.length : Int) (wrap64 ((wrap64 (x5_3 + (wrap64 (t179 * (ji59))))) + t181)) x10_5 false)) else (pLaws.j7 k7 l0 x3_1 x4_3 t179 (x4_3.length : Int) (wrap64 ((wrap64 (x5_3 + (wrap64 (t179 * (ji59))))) + t181)) x10_5 false))) else (pLaws.j7 k7 l0 x3_1 x4_3 t179 (x4_3.length : Int) (wrap64 ((wrap64 (x5_3 + (wrap64 (t179 * (ji59))))) + t181)) x10_5 true)) else (if x10_5 = 2 then (if (wrap64 ((wrap64 ((wrap64 ((wrap64 (x5_3 + (wrap64 (t179 * (ji59))))) + t181)) - (rd t182 (ji59)))) - (rd x4_3 (ji59)))) < (rd t182 0) then (pLaws.j7 k7 l0 x3_1 x4_3 t179 (x4_3.length : Int) (wrap64 ((wrap64 (x5_3 + (wrap64 (t179 * (ji59))))) + t181)) x10_5 true) else (if (wrap64 ((wrap64 ((wrap64 ((wrap64 (x5_3 + (wrap64 (t179 * (ji59))))) + t181)) - (rd t182 (ji59)))) - (rd x4_3 (ji59)))) > (wrap64 ((rd t182 0) + 1)) then (pLaws.j7 k7 l0 x3_1 x4_3 t179 (x4_3.length : Int) (wrap64 ((wrap64 (x5_3 + (wrap64 (t179 * (ji59))))) + t181)) x10_5 true) else (if x10_5 = 3 then (if (x4_3.length : Int) > 1 then (pLaws.j7 k7 l0 x3_1 x4_3 t179 (x4_3.length : Int) (wrap64 ((wrap64 (x5_3 + (wrap64 (t179 * (ji59))))) + t181)) x10_5 (decide ((wrap64 ((wrap64 ((wrap64 ((wrap64 (x5_3 + (wrap64 (t179 * (ji59))))) + t181)) - (rd t182 (ji59)))) - (rd x4_3 (ji59)))) ≥ (ji59)))) else (pLaws.j7 k7 l0 x3_1 x4_3 t179 (x4_3.length : Int) (wrap64 ((wrap64 (x5_3 + (wrap64 (t179 * (ji59))))) + t181)) x10_5 false)) else (pLaws.j7 k7 l0 x3_1 x4_3 t179 (x4_3.length : Int) (wrap64 ((wrap64 (x5_3 + (wrap64 (t179 * (ji59))))) + t181)) x10_5 false)))) else (if x10_5 = 3 then (if (x4_3.length : Int) > 1 then (pLaws.j7 k7 l0 x3_1 x4_3 t179 (x4_3.length : Int) (wrap64 ((wrap64 (x5_3 + (wrap64 (t179 * (ji59))))) + t181)) x10_5 (decide ((wrap64 ((wrap64 ((wrap64 ((wrap64 (x5_3 + (wrap64 (t179 * (ji59))))) + t181)) - (rd t182 (ji59)))) - (rd x4_3 (ji59)))) ≥ (ji59)))) else (pLaws.j7 k7 l0 x3_1 x4_3 t179 (x4_3.length : Int) (wrap64 ((wrap64 (x5_3 + (wrap64 (t179 * (ji59))))) + t181)) x10_5 false)) else (pLaws.j7 k7 l0 x3_1 x4_3 t179 (x4_3.length : Int) (wrap64 ((wrap64 (x5_3 + (wrap64 (t179 * (ji59))))) + t181)) x10_5 false)))) else (pLaws.j7 k7 l0 x3_1 x4_3 t179 (x4_3.length : Int) (wrap64 ((wrap64 (x5_3 + (wrap64 (t179 * (ji59))))) + t181)) x10_5 true)) else (none)) else (if x10_5 = 1 then (if (wrap64 ((wrap64 ((wrap64 ((wrap64 (x5_3 + (wrap64 (t179 * (ji59))))) + t181)) - (rd t182 (ji59)))) - (rd x4_3 (ji59)))) = 0 then (if x10_5 = 2 then (if 0 < (t182.length : Int) then (if (wrap64 ((wrap64 ((wrap64 ((wrap64 (x5_3 + (wrap64 (t179 * (ji59))))) + t181)) - (rd t182 (ji59)))) - (rd x4_3 (ji59)))) < (rd t182 0) then (pLaws.j7 k7 l0 x3_1 x4_3 t179 (x4_3.length : Int) (wrap64 ((wrap64 (x5_3 + (wrap64 (t179 * (ji59))))) + t181)) x10_5 true) else (if (wrap64 ((wrap64 ((wrap64 ((wrap64 (x5_3 + (wrap64 (t179 * (ji59))))) + t181)) - (rd t182 (ji59)))) - (rd x4_3 (ji59)))) > (wrap64 ((rd t182 0) + 1)) then (pLaws.j7 k7 l0 x3_1 x4_3 t179 (x4_3.length : Int) (wrap64 ((wrap64 (x5_3 + (wrap64 (t179 * (ji59))))) + t181)) x10_5 true) else (if x10_5 = 3 then (if (x4_3.length : Int) > 1 then (if (rd t182 0) = 0 then (pLaws.j7 k7 l0 x3_1 x4_3 t179 (x4_3.length : Int) (wrap64 ((wrap64 (x5_3 + (wrap64 (t179 * (ji59))))) + t181)) x10_5 (decide ((wrap64 ((wrap64 ((wrap64 ((wrap64 (x5_3 + (wrap64 (t179 * (ji59))))) + t181)) - (rd t182 (ji59)))) - (rd x4_3 (ji59)))) ≥ (ji59)))) else (pLaws.j7 k7 l0 x3_1 x4_3 t179 (x4_3.length : Int) (wrap64 ((wrap64 (x5_3 + (wrap64 (t179 * (ji59))))) + t181)) x10_5 true)) else (pLaws.j7 k7 l0 x3_1 x4_3 t179 (x4_3.length : Int) (wrap64 ((wrap64 (x5_3 + (wrap64 (t179 * (ji59))))) + t181)) x10_5 false)) else (pLaws.j7 k7 l0 x3_1 x4_3 t179 (x4_3.length : Int) (wrap64 ((wrap64 (x5_3 + (wrap64 (t179 * (ji59))))) + t181)) x10_5 false)))) else (none)) else (if x10_5 = 3 then (if (x4_3.length : Int) > 1 then (if 0 < (t182.length : Int) then (if (rd t182 0) = 0 then (pLaws.j7 k7 l0 x3_1 x4_3 t179 (x4_3.length : Int) (wrap64 ((wrap64 (x5_3 + (wrap64 (t179 * (ji59))))) + t181)) x10_5 (decide ((wrap64 ((wrap64 ((wrap64 ((wrap64 (x5_3 + (wrap64 (t179 * (ji59))))) + t181)) - (rd t182 (ji59)))) - (rd x4_3 (ji59)))) ≥ (ji59)))) else (pLaws.j7 k7 l0 x3_1 x4_3 t179 (x4_3.length : Int) (wrap64 ((wrap64 (x5_3 + (wrap64 (t179 * (ji59))))) + t181)) x10_5 true)) else (none)) else (pLaws.j7 k7 l0 x3_1 x4_3 t179 (x4_3.length : Int) (wrap64 ((wrap64 (x5_3 + (wrap64 (t179 * (ji59))))) + t181)) x10_5 false)) else (pLaws.j7 k7 l0 x3_1 x4_3 t179 (x4_3.length : Int) (wrap64 ((wrap64 (x5_3 + (wrap64 (t179 * (ji59))))) + t181)) x10_5 false))) else (pLaws.j7 k7 l0 x3_1 x4_3 t179 (x4_3.length : Int) (wrap64 ((wrap64 (x5_3 + (wrap64 (t179 * (ji59))))) + t181)) x10_5 true)) else (if x10_5 = 2 then (if 0 < (t182.length : Int) then (if (wrap64 ((wrap64 ((wrap64 ((wrap64 (x5_3 + (wrap64 (t179 * (ji59))))) + t181)) - (rd t182 (ji59)))) - (rd x4_3 (ji59)))) < (rd t182 0) then (pLaws.j7 k7 l0 x3_1 x4_3 t179 (x4_3.length : Int) (wrap64 ((wrap64 (x5_3 + (wrap64 (t179 * (ji59))))) + t181)) x10_5 true) else (if (wrap64 ((wrap64 ((wrap64 ((wrap64 (x5_3 + (wrap64 (t179 * (ji59))))) + t181)) - (rd t182 (ji59)))) - (rd x4_3 (ji59)))) > (wrap64 ((rd t182 0) + 1)) then (pLaws.j7 k7 l0 x3_1 x4_3 t179 (x4_3.length : Int) (wrap64 ((wrap64 (x5_3 + (wrap64 (t179 * (ji59))))) + t181)) x10_5 true) else (if x10_5 = 3 then (if (x4_3.length : Int) > 1 then (if (rd t182 0) = 0 then (pLaws.j7 k7 l0 x3_1 x4_3 t179 (x4_3.length : Int) (wrap64 ((wrap64 (x5_3 + (wrap64 (t179 * (ji59))))) + t181)) x10_5 (decide ((wrap64 ((wrap64 ((wrap64 ((wrap64 (x5_3 + (wrap64 (t179 * (ji59))))) + t181)) - (rd t182 (ji59)))) - (rd x4_3 (ji59)))) ≥ (ji59)))) else (pLaws.j7 k7 l0 x3_1 x4_3 t179 (x4_3.length : Int) (wrap64 ((wrap64 (x5_3 + (wrap64 (t179 * (ji59))))) + t181)) x10_5 true)) else (pLaws.j7 k7 l0 x3_1 x4_3 t179 (x4_3.length : Int) (wrap64 ((wrap64 (x5_3 + (wrap64 (t179 * (ji59))))) + t181)) x10_5 false)) else (pLaws.j7 k7 l0 x3_1 x4_3 t179 (x4_3.length : Int) (wrap64 ((wrap64 (x5_3 + (wrap64 (t179 * (ji59))))) + t181)) x10_5 false)))) else (none)) else (if x10_5 = 3 then (if (x4_3.length : Int) > 1 then (if 0 < (t182.length : Int) then (if (rd t182 0) = 0 then (pLaws.j7 k7 l0 x3_1 x4_3 t179 (x4_3.length : Int) (wrap64 ((wrap64 (x5_3 + (wrap64 (t179 * (ji59))))) + t181)) x10_5 (decide ((wrap64 ((wrap64 ((wrap64 ((wrap64 (x5_3 + (wrap64 (t179 * (ji59))))) + t181)) - (rd t182 (ji59)))) - (rd x4_3 (ji59)))) ≥ (ji59)))) else (pLaws.j7 k7 l0 x3_1 x4_3 t179 (x4_3.length : Int) (wrap64 ((wrap64 (x5_3 + (wrap64 (t179 * (ji59))))) + t181)) x10_5 true)) else (none)) else (pLaws.j7 k7 l0 x3_1 x4_3 t179 (x4_3.length : Int) (wrap64 ((wrap64 (x5_3 + (wrap64 (t179 * (ji59))))) + t181)) x10_5 false)) else (pLaws.j7 k7 l0 x3_1 x4_3 t179 (x4_3.length : Int) (wrap64 ((wrap64 (x5_3 + (wrap64 (t179 * (ji59))))) + t181)) x10_5 false))))) else (none)) else (none)) else (none)) = some r := by first | (rw [hji59] at H; exact H) | (simp only [hji59] at H ⊢; exact H)
                       have hji59w : (IntKind.i64.wrap ((x4_3.length : Int) - 1)) = ji59 := (i64_w _).trans hji59
                       by_cases c60 : 0 ≤ (ji59)
                       ·as_aux_lemma =>
                        rw [if_pos c60] at H
                        have c60b0 : decide (0 ≤ (ji59)) = true := decide_eq_true c60
                        clear c60
                        by_cases c61 : (ji59) < (t182.length : Int)
                        ·as_aux_lemma =>
                         rw [if_pos c61] at H
                         have c61b0 : decide ((ji59) < (t182.length : Int)) = true := decide_eq_true c61
                         clear c61
                         by_cases c62 : (ji59) < (x4_3.length : Int)
                         ·as_aux_lemma =>
                          rw [if_pos c62] at H
                          have c62b0 : decide ((ji59) < (x4_3.length : Int)) = true := decide_eq_true c62
                          clear c62; have HC63 := Aside0.mk H; clear H
                          try go_wp2
                          have n0_ := Aside0.mk (Kd.R_drew HO_4.out); have n1_ := Aside0.mk (Kd.R_drew HO_11.out); have n2_ := Aside0.mk (below_drew1 HB.out); clear HO_4; clear HO_11; clear HB; have HO_4 := n0_; have HO_11 := n1_; have HB := n2_; clear n0_ n1_ n2_
                          obtain ⟨Ao65, co65, eo65⟩ := Kd.R_slice HO_11.out
                          (first | subst eo65 | (injection eo65 with f1_ f2_ f3_; have f4_ := f1_.symm; have f5_ := f3_.symm; clear f1_ f2_ f3_; subst f4_; subst f5_))
                          have p193 : 0 ≤ ((ji59) : Int) := of_decide_eq_true (by first | (with_reducible assumption) | assumption); have q193 : (ji59) < (t182.length : Int) := of_decide_eq_true (by first | (with_reducible assumption) | assumption); obtain ⟨ad193, e193, hx193_0⟩ := Kd.at_int (Kd.R_reads' HO_11.out).2.2 (ji59) p193 q193; cases e193; replace p193 := eq_true p193; replace q193 := eq_true q193; have p194 : 0 ≤ ((ji59) : Int) := of_decide_eq_true (by first | (with_reducible assumption) | assumption); have q194 : (ji59) < (x4_3.length : Int) := of_decide_eq_true (by first | (with_reducible assumption) | assumption); obtain ⟨ad194, e194, hx194_0⟩ := Kd.at_int (Kd.R_reads' HO_4.out).2.2 (ji59) p194 q194; cases e194; replace p194 := eq_true p194; replace q194 := eq_true q194
                          refine start_ (n := 14) (S := fun w' => w'.cell? (ad193.add ((ji59)).toNat) = some (.int .i64 (rd t182 (ji59))) ∧ w'.cell? (ad194.add ((ji59)).toNat) = some (.int .i64 (rd x4_3 (ji59)))) (ds := []) pm2 (by kernel_rfl) rfl rfl ⟨hx193_0, hx194_0⟩ (fun hHeld => ?_); refine with_tabW pLaws.tab27 pLaws.bits27 (fun HT_ HW_ => ?_)
                          generalize wr.drew = w64 at HO_4 HO_11 HB hx193_0 hx194_0 hHeld ⊢
                          refine pure_ (i := 0) (N := some 149) (v := ?_) (a' := ?_) pm5 rfl rfl (any_of HT_.out (by kernel_rfl)) (fun _ _ _ h => h) (Or.inl ⟨by rfl, ?_⟩) ?_ ?_
                          rotate_left
                          ·intro w'; go_simp
                           with_reducible rfl
                          rotate_left
                          ·simp only [Act.put, List.setIfInBounds_toArray, List.set_cons_zero, List.set_cons_succ, i64_w, i32_w]
                           rfl
                          refine pure_ (i := 1) (N := some 150) (v := ?_) (a' := ?_) pm8 rfl rfl (any_of HT_.out (by kernel_rfl)) (fun _ _ _ h => h) (Or.inl ⟨by rfl, ?_⟩) ?_ ?_
                          rotate_left
                          ·intro w'; go_simp
                           with_reducible rfl
                          rotate_left
                          ·simp only [Act.put, List.setIfInBounds_toArray, List.set_cons_zero, List.set_cons_succ, i64_w, i32_w]
                           rfl
                          refine pure_ (i := 2) (N := some 151) (v := ?_) (a' := ?_) pm11 rfl rfl (any_of HT_.out (by kernel_rfl)) (fun _ _ _ h => h) (Or.inl ⟨by rfl, ?_⟩) ?_ ?_
                          rotate_left
                          ·intro w'; go_simp
                           with_reducible rfl
                          rotate_left
                          ·simp only [Act.put, List.setIfInBounds_toArray, List.set_cons_zero, List.set_cons_succ, i64_w, i32_w]
                           rfl
                          refine pure_ (i := 3) (N := some 152) (v := ?_) (a' := ?_) pm22 rfl rfl (any_of HT_.out (by kernel_rfl)) (fun _ _ _ h => h) (Or.inl ⟨by rfl, ?_⟩) ?_ ?_
                          rotate_left
                          ·intro w'; go_simp
                           with_reducible rfl
                          rotate_left
                          ·simp only [Act.put, List.setIfInBounds_toArray, List.set_cons_zero, List.set_cons_succ, i64_w, i32_w]
                           rfl
                          refine pure_ (i := 4) (N := some 153) (v := ?_) (a' := ?_) pm24 rfl rfl (any_of HT_.out (by kernel_rfl)) (fun _ _ _ h => h) (Or.inl ⟨by rfl, ?_⟩) ?_ ?_
                          rotate_left
                          ·intro w'; go_simp
                           with_reducible rfl
                          rotate_left
                          ·simp only [Act.put, List.setIfInBounds_toArray, List.set_cons_zero, List.set_cons_succ, i64_w, i32_w]
                           rfl
                          refine pure_ (i := 7) (N := some 156) (v := ?_) (a' := ?_) pm25 rfl rfl (any_of HT_.out (by kernel_rfl)) (fun _ _ _ h => h) (Or.inl ⟨by rfl, ?_⟩) ?_ ?_
                          rotate_left
                          ·intro w'; go_simp
                           with_reducible rfl
                          rotate_left
                          ·simp only [Act.put, List.setIfInBounds_toArray, List.set_cons_zero, List.set_cons_succ, i64_w, i32_w]
                           rfl
                          refine pure_ (i := 8) (N := some 157) (v := ?_) (a' := ?_) pm26 rfl rfl (any_of HT_.out (by kernel_rfl)) (fun _ _ _ h => h) (Or.inl ⟨by rfl, ?_⟩) ?_ ?_
                          rotate_left
                          ·intro w'; go_simp
                           with_reducible rfl
                          rotate_left
                          ·simp only [Act.put, List.setIfInBounds_toArray, List.set_cons_zero, List.set_cons_succ, i64_w, i32_w]
                           rfl
                          refine pure_ (i := 9) (N := some 158) (v := ?_) (a' := ?_) pm27 rfl rfl (any_of HT_.out (by kernel_rfl)) (fun _ _ _ h => h) (Or.inl ⟨by rfl, ?_⟩) ?_ ?_
                          rotate_left
                          ·intro w'; go_simp
                           with_reducible rfl
                          rotate_left
                          ·simp only [Act.put, List.setIfInBounds_toArray, List.set_cons_zero, List.set_cons_succ, i64_w, i32_w]
                           rfl
                          refine pure_ (i := 10) (N := some 159) (v := ?_) (a' := ?_) pm28 rfl rfl (any_of HT_.out (by kernel_rfl)) (fun _ _ _ h => h) (Or.inl ⟨by rfl, ?_⟩) ?_ ?_
                          rotate_left
                          ·intro w'; go_simp
                           with_reducible rfl
                          rotate_left
                          ·simp only [Act.put, List.setIfInBounds_toArray, List.set_cons_zero, List.set_cons_succ, i64_w, i32_w]
                           rfl
                          refine take_ (i := 5) (N := some 154) (v := ?_) (a' := ?_) pm30 rfl rfl (take_ofW HT_.out HW_.out (by kernel_rfl)) (fun _ _ _ h => h) (Or.inl ⟨by rfl, ?_⟩) hHeld ?_ ?_
                          rotate_left
                          ·rintro w' ⟨s0, s1⟩
                           go_simp
                           with_reducible rfl
                          rotate_left
                          ·simp only [Act.put, List.setIfInBounds_toArray, List.set_cons_zero, List.set_cons_succ, i64_w, i32_w]
                           rfl
                          refine pure_ (i := 6) (N := some 155) (v := ?_) (a' := ?_) pm37 rfl rfl (any_of HT_.out (by kernel_rfl)) (fun _ _ _ h => h) (Or.inl ⟨by rfl, ?_⟩) ?_ ?_
                          rotate_left
                          ·intro w'; go_simp
                           with_reducible rfl
                          rotate_left
                          ·simp only [Act.put, List.setIfInBounds_toArray, List.set_cons_zero, List.set_cons_succ, i64_w, i32_w]
                           rfl
                          refine take_ (i := 11) (N := some 160) (v := ?_) (a' := ?_) pm39 rfl rfl (take_ofW HT_.out HW_.out (by kernel_rfl)) (fun _ _ _ h => h) (Or.inl ⟨by rfl, ?_⟩) hHeld ?_ ?_
                          rotate_left
                          ·rintro w' ⟨s0, s1⟩
                           go_simp
                           with_reducible rfl
                          rotate_left
                          ·simp only [Act.put, List.setIfInBounds_toArray, List.set_cons_zero, List.set_cons_succ, i64_w, i32_w]
                           rfl
                          refine pure_ (i := 12) (N := some 161) (v := ?_) (a' := ?_) pm42 rfl rfl (any_of HT_.out (by kernel_rfl)) (fun _ _ _ h => h) (Or.inl ⟨by rfl, ?_⟩) ?_ ?_
                          rotate_left
                          ·intro w'; go_simp
                           with_reducible rfl
                          rotate_left
                          ·simp only [Act.put, List.setIfInBounds_toArray, List.set_cons_zero, List.set_cons_succ, i64_w, i32_w]
                           rfl
                          refine pure_ (i := 13) (N := some 14) (v := ?_) (a' := ?_) pm71 rfl rfl (any_of HT_.out (by kernel_rfl)) (fun _ _ _ h => h) (Or.inl ⟨by rfl, ?_⟩) ?_ ?_
                          rotate_left
                          ·intro w'; go_simp
                           with_reducible rfl
                          rotate_left
                          ·simp only [Act.put, List.setIfInBounds_toArray, List.set_cons_zero, List.set_cons_succ, i64_w, i32_w]
                           rfl
                          refine done_ (done_of HT_.out (by kernel_rfl)) ?_
                          go_upto_region 28 with (fail)
                          go_cut [216] (fun v216 wc => ∃ (kq : Nat) (x216_62 : Bool), v216 = .bool x216_62 ∧ Aside0 (pLaws.j7 kq l0 x3_1 x4_3 t179 (x4_3.length : Int) (wrap64 ((wrap64 (x5_3 + (wrap64 (t179 * (ji59))))) + t181)) x10_5 x216_62 = some r) ∧ Aside0 (kq ≤ k7) ∧ Aside0 (Kd.R (Kd.int .i64) 3 wc w.heap.size (fun _ => True) (.slice (some ad194) x4_3.length co25) x4_3) ∧ Aside0 (Below w.heap.size w wc))
                          case first => as_aux_lemma =>
                           have H := HC63.out
                           clear HC63
                           by_cases c66 : x10_5 = 0
                           ·as_aux_lemma =>
                            rw [if_pos c66] at H
                            have c66b0 : (x10_5 == 0) = true := beq_iff_eq.mpr c66
                            have c66b1 : (x10_5 != 0) = false := bne_eq_false_iff_eq.mpr c66
                            clear c66
                            (first | rw [c66b0] | (simp only [i64_w, i32_w]; rw [c66b0]) | skip)
                            by_cases c67 : 0 < (t182.length : Int)
                            ·as_aux_lemma =>
                             rw [if_pos c67] at H
                             have c67b0 : decide (0 < (t182.length : Int)) = true := decide_eq_true c67
                             have c67b1 : decide (0 < t182.length) = true := decide_eq_true (by omega)
                             clear c67
                             by_cases c68 : (rd t182 0) = 0
                             ·as_aux_lemma =>
                              rw [if_pos c68] at H
                              have c68b0 : ((rd t182 0) == 0) = true := beq_iff_eq.mpr c68
                              have c68b1 : ((rd t182 0) != 0) = false := bne_eq_false_iff_eq.mpr c68
                              clear c68
                              by_cases c69 : x10_5 = 1
                              ·as_aux_lemma =>
                               rw [if_pos c69] at H
                               have c69b0 : (x10_5 == 1) = true := beq_iff_eq.mpr c69
                               have c69b1 : (x10_5 != 1) = false := bne_eq_false_iff_eq.mpr c69
                               clear c69
                               by_cases c70 : (wrap64 ((wrap64 ((wrap64 ((wrap64 (x5_3 + (wrap64 (t179 * (ji59))))) + t181)) - (rd t182 (ji59)))) - (rd x4_3 (ji59)))) = 0
                               ·rw [if_pos c70] at H
                                have c70b0 : ((wrap64 ((wrap64 ((wrap64 ((wrap64 (x5_3 + (wrap64 (t179 * (ji59))))) + t181)) - (rd t182 (ji59)))) - (rd x4_3 (ji59)))) == 0) = true := beq_iff_eq.mpr c70
                                have c70b1 : ((wrap64 ((wrap64 ((wrap64 ((wrap64 (x5_3 + (wrap64 (t179 * (ji59))))) + t181)) - (rd t182 (ji59)))) - (rd x4_3 (ji59)))) != 0) = false := bne_eq_false_iff_eq.mpr c70
                                clear c70
                                by_cases c71 : x10_5 = 2
                                ·rw [if_pos c71] at H
                                 have c71b0 : (x10_5 == 2) = true := beq_iff_eq.mpr c71
                                 have c71b1 : (x10_5 != 2) = false := bne_eq_false_iff_eq.mpr c71
                                 clear c71
                                 by_cases c72 : (wrap64 ((wrap64 ((wrap64 ((wrap64 (x5_3 + (wrap64 (t179 * (ji59))))) + t181)) - (rd t182 (ji59)))) - (rd x4_3 (ji59)))) < (rd t182 0)
                                 ·rw [if_pos c72] at H
                                  have c72b0 : decide ((wrap64 ((wrap64 ((wrap64 ((wrap64 (x5_3 + (wrap64 (t179 * (ji59))))) + t181)) - (rd t182 (ji59)))) - (rd x4_3 (ji59)))) < (rd t182 0)) = true := decide_eq_true c72
                                  clear c72
                                  have H' := Aside0.mk H
                                  clear H; have p195 : 0 ≤ (0 : Int) := (by omega); have q195 : 0 < (t182.length : Int) := of_decide_eq_true (by first | (with_reducible assumption) | assumption); obtain ⟨ad195, e195, hx195_0⟩ := Kd.at_int (Kd.R_reads' HO_11.out).2.2 0 p195 q195; obtain rfl : ad193 = ad195 := (by injection e195); have qi195 : (0 < t182.length) = True := eq_true (by omega); (try rw [show ((0 : Int)).toNat = 0 from rfl] at hx195_0); (try rw [Addr.add_zero'] at hx195_0); replace p195 := eq_true p195; replace q195 := eq_true q195; have p196 : 0 ≤ (0 : Int) := (by omega); have q196 : 0 < (t182.length : Int) := of_decide_eq_true (by first | (with_reducible assumption) | assumption); obtain ⟨ad196, e196, hx196_0⟩ := Kd.at_int (Kd.R_reads' HO_11.out).2.2 0 p196 q196; obtain rfl : ad193 = ad196 := (by injection e196); have qi196 : (0 < t182.length) = True := eq_true (by omega); (try rw [show ((0 : Int)).toNat = 0 from rfl] at hx196_0); (try rw [Addr.add_zero'] at hx196_0); replace p196 := eq_true p196; replace q196 := eq_true q196
                                  go_wp2
                                  subst hji59; go_meet
                                  case rel => exact ⟨_, (true), (by first | rfl | (simp; done) | (simp [*]; done)), H', ⟨by have := HK1.out; have := HJ1.out; have := HK3.out; have := HJ4.out; have := HK5.out; have := HJ27.out; have := HK7.out; first | omega | exact Nat.le_refl _⟩, ⟨by (with_reducible repeat (first | apply Kd.R_alloc | apply Kd.R_drewN | apply Kd.R_drew)); exact Kd.R_mono HO_4.out (fun _ hk => trivial)⟩, ⟨by repeat (first | (with_reducible first | exact HB.out | apply below_alloc | apply pw_below_drewN | apply below_drew1) | exact HB.out)⟩⟩
                                 ·rw [if_neg c72] at H
                                  have c72b0 : decide ((wrap64 ((wrap64 ((wrap64 ((wrap64 (x5_3 + (wrap64 (t179 * (ji59))))) + t181)) - (rd t182 (ji59)))) - (rd x4_3 (ji59)))) < (rd t182 0)) = false := decide_eq_false c72
                                  clear c72
                                  by_cases c73 : (wrap64 ((wrap64 ((wrap64 ((wrap64 (x5_3 + (wrap64 (t179 * (ji59))))) + t181)) - (rd t182 (ji59)))) - (rd x4_3 (ji59)))) > (wrap64 ((rd t182 0) + 1))
                                  ·rw [if_pos c73] at H
                                   have c73b0 : decide ((wrap64 ((rd t182 0) + 1)) < (wrap64 ((wrap64 ((wrap64 ((wrap64 (x5_3 + (wrap64 (t179 * (ji59))))) + t181)) - (rd t182 (ji59)))) - (rd x4_3 (ji59))))) = true := decide_eq_true c73
                                   clear c73
                                   have H' := Aside0.mk H
                                   clear H; have p195 : 0 ≤ (0 : Int) := (by omega); have q195 : 0 < (t182.length : Int) := of_decide_eq_true (by first | (with_reducible assumption) | assumption); obtain ⟨ad195, e195, hx195_0⟩ := Kd.at_int (Kd.R_reads' HO_11.out).2.2 0 p195 q195; obtain rfl : ad193 = ad195 := (by injection e195); have qi195 : (0 < t182.length) = True := eq_true (by omega); (try rw [show ((0 : Int)).toNat = 0 from rfl] at hx195_0); (try rw [Addr.add_zero'] at hx195_0); replace p195 := eq_true p195; replace q195 := eq_true q195; have p196 : 0 ≤ (0 : Int) := (by omega); have q196 : 0 < (t182.length : Int) := of_decide_eq_true (by first | (with_reducible assumption) | assumption); obtain ⟨ad196, e196, hx196_0⟩ := Kd.at_int (Kd.R_reads' HO_11.out).2.2 0 p196 q196; obtain rfl : ad193 = ad196 := (by injection e196); have qi196 : (0 < t182.length) = True := eq_true (by omega); (try rw [show ((0 : Int)).toNat = 0 from rfl] at hx196_0); (try rw [Addr.add_zero'] at hx196_0); replace p196 := eq_true p196; replace q196 := eq_true q196; have p197 : 0 ≤ (0 : Int) := (by omega); have q197 : 0 < (t182.length : Int) := of_decide_eq_true (by first | (with_reducible assumption) | assumption); obtain ⟨ad197, e197, hx197_0⟩ := Kd.at_int (Kd.R_reads' HO_11.out).2.2 0 p197 q197; obtain rfl : ad193 = ad197 := (by injection e197); have qi197 : (0 < t182.length) = True := eq_true (by omega); (try rw [show ((0 : Int)).toNat = 0 from rfl] at hx197_0); (try rw [Addr.add_zero'] at hx197_0); replace p197 := eq_true p197; replace q197 := eq_true q197
                                   go_wp2
                                   subst hji59; go_meet
                                   case rel => exact ⟨_, (true), (by first | rfl | (simp; done) | (simp [*]; done)), H', ⟨by have := HK1.out; have := HJ1.out; have := HK3.out; have := HJ4.out; have := HK5.out; have := HJ27.out; have := HK7.out; first | omega | exact Nat.le_refl _⟩, ⟨by (with_reducible repeat (first | apply Kd.R_alloc | apply Kd.R_drewN | apply Kd.R_drew)); exact Kd.R_mono HO_4.out (fun _ hk => trivial)⟩, ⟨by repeat (first | (with_reducible first | exact HB.out | apply below_alloc | apply pw_below_drewN | apply below_drew1) | exact HB.out)⟩⟩
                                  ·rw [if_neg c73] at H
                                   have c73b0 : decide ((wrap64 ((rd t182 0) + 1)) < (wrap64 ((wrap64 ((wrap64 ((wrap64 (x5_3 + (wrap64 (t179 * (ji59))))) + t181)) - (rd t182 (ji59)))) - (rd x4_3 (ji59))))) = false := decide_eq_false c73
                                   clear c73
                                   by_cases c74 : x10_5 = 3
                                   ·rw [if_pos c74] at H
                                    have c74b0 : (x10_5 == 3) = true := beq_iff_eq.mpr c74
                                    have c74b1 : (x10_5 != 3) = false := bne_eq_false_iff_eq.mpr c74
                                    clear c74
                                    by_cases c75 : (x4_3.length : Int) > 1
                                    ·rw [if_pos c75] at H
                                     have c75b0 : decide (1 < (x4_3.length : Int)) = true := decide_eq_true c75
                                     have c75b1 : decide (1 < x4_3.length) = true := decide_eq_true (by omega)
                                     clear c75
                                     have H' := Aside0.mk H
                                     clear H; have p195 : 0 ≤ (0 : Int) := (by omega); have q195 : 0 < (t182.length : Int) := of_decide_eq_true (by first | (with_reducible assumption) | assumption); obtain ⟨ad195, e195, hx195_0⟩ := Kd.at_int (Kd.R_reads' HO_11.out).2.2 0 p195 q195; obtain rfl : ad193 = ad195 := (by injection e195); have qi195 : (0 < t182.length) = True := eq_true (by omega); (try rw [show ((0 : Int)).toNat = 0 from rfl] at hx195_0); (try rw [Addr.add_zero'] at hx195_0); replace p195 := eq_true p195; replace q195 := eq_true q195; have p196 : 0 ≤ (0 : Int) := (by omega); have q196 : 0 < (t182.length : Int) := of_decide_eq_true (by first | (with_reducible assumption) | assumption); obtain ⟨ad196, e196, hx196_0⟩ := Kd.at_int (Kd.R_reads' HO_11.out).2.2 0 p196 q196; obtain rfl : ad193 = ad196 := (by injection e196); have qi196 : (0 < t182.length) = True := eq_true (by omega); (try rw [show ((0 : Int)).toNat = 0 from rfl] at hx196_0); (try rw [Addr.add_zero'] at hx196_0); replace p196 := eq_true p196; replace q196 := eq_true q196; have p197 : 0 ≤ (0 : Int) := (by omega); have q197 : 0 < (t182.length : Int) := of_decide_eq_true (by first | (with_reducible assumption) | assumption); obtain ⟨ad197, e197, hx197_0⟩ := Kd.at_int (Kd.R_reads' HO_11.out).2.2 0 p197 q197; obtain rfl : ad193 = ad197 := (by injection e197); have qi197 : (0 < t182.length) = True := eq_true (by omega); (try rw [show ((0 : Int)).toNat = 0 from rfl] at hx197_0); (try rw [Addr.add_zero'] at hx197_0); replace p197 := eq_true p197; replace q197 := eq_true q197; have p198 : 0 ≤ (0 : Int) := (by omega); have q198 : 0 < (t182.length : Int) := of_decide_eq_true (by first | (with_reducible assumption) | assumption); obtain ⟨ad198, e198, hx198_0⟩ := Kd.at_int (Kd.R_reads' HO_11.out).2.2 0 p198 q198; obtain rfl : ad193 = ad198 := (by injection e198); have qi198 : (0 < t182.length) = True := eq_true (by omega); (try rw [show ((0 : Int)).toNat = 0 from rfl] at hx198_0); (try rw [Addr.add_zero'] at hx198_0); replace p198 := eq_true p198; replace q198 := eq_true q198
                                     go_wp2
                                     subst hji59; go_meet
                                     case rel => exact ⟨_, (decide ((wrap64 ((wrap64 ((wrap64 ((wrap64 (x5_3 + (wrap64 (t179 * (wrap64 ((x4_3.length : Int) - 1)))))) + t181)) - (rd t182 (wrap64 ((x4_3.length : Int) - 1))))) - (rd x4_3 (wrap64 ((x4_3.length : Int) - 1))))) ≥ (wrap64 ((x4_3.length : Int) - 1)))), (by first | rfl | (simp; done) | (simp only [← hji59] <;> (first | rfl | (rw [tdiv_mx]; done) | simp)) | (simp [*]; done)), H', ⟨by have := HK1.out; have := HJ1.out; have := HK3.out; have := HJ4.out; have := HK5.out; have := HJ27.out; have := HK7.out; first | omega | exact Nat.le_refl _⟩, ⟨by (with_reducible repeat (first | apply Kd.R_alloc | apply Kd.R_drewN | apply Kd.R_drew)); exact Kd.R_mono HO_4.out (fun _ hk => trivial)⟩, ⟨by repeat (first | (with_reducible first | exact HB.out | apply below_alloc | apply pw_below_drewN | apply below_drew1) | exact HB.out)⟩⟩
                                    ·rw [if_neg c75] at H
                                     have c75b0 : decide (1 < (x4_3.length : Int)) = false := decide_eq_false c75
                                     have c75b1 : decide (1 < x4_3.length) = false := decide_eq_false (by omega)
                                     clear c75
                                     have H' := Aside0.mk H
                                     clear H; have p195 : 0 ≤ (0 : Int) := (by omega); have q195 : 0 < (t182.length : Int) := of_decide_eq_true (by first | (with_reducible assumption) | assumption); obtain ⟨ad195, e195, hx195_0⟩ := Kd.at_int (Kd.R_reads' HO_11.out).2.2 0 p195 q195; obtain rfl : ad193 = ad195 := (by injection e195); have qi195 : (0 < t182.length) = True := eq_true (by omega); (try rw [show ((0 : Int)).toNat = 0 from rfl] at hx195_0); (try rw [Addr.add_zero'] at hx195_0); replace p195 := eq_true p195; replace q195 := eq_true q195; have p196 : 0 ≤ (0 : Int) := (by omega); have q196 : 0 < (t182.length : Int) := of_decide_eq_true (by first | (with_reducible assumption) | assumption); obtain ⟨ad196, e196, hx196_0⟩ := Kd.at_int (Kd.R_reads' HO_11.out).2.2 0 p196 q196; obtain rfl : ad193 = ad196 := (by injection e196); have qi196 : (0 < t182.length) = True := eq_true (by omega); (try rw [show ((0 : Int)).toNat = 0 from rfl] at hx196_0); (try rw [Addr.add_zero'] at hx196_0); replace p196 := eq_true p196; replace q196 := eq_true q196; have p197 : 0 ≤ (0 : Int) := (by omega); have q197 : 0 < (t182.length : Int) := of_decide_eq_true (by first | (with_reducible assumption) | assumption); obtain ⟨ad197, e197, hx197_0⟩ := Kd.at_int (Kd.R_reads' HO_11.out).2.2 0 p197 q197; obtain rfl : ad193 = ad197 := (by injection e197); have qi197 : (0 < t182.length) = True := eq_true (by omega); (try rw [show ((0 : Int)).toNat = 0 from rfl] at hx197_0); (try rw [Addr.add_zero'] at hx197_0); replace p197 := eq_true p197; replace q197 := eq_true q197
                                     go_wp2
                                     subst hji59; go_meet
                                     case rel => exact ⟨_, (false), (by first | rfl | (simp; done) | (simp [*]; done)), H', ⟨by have := HK1.out; have := HJ1.out; have := HK3.out; have := HJ4.out; have := HK5.out; have := HJ27.out; have := HK7.out; first | omega | exact Nat.le_refl _⟩, ⟨by (with_reducible repeat (first | apply Kd.R_alloc | apply Kd.R_drewN | apply Kd.R_drew)); exact Kd.R_mono HO_4.out (fun _ hk => trivial)⟩, ⟨by repeat (first | (with_reducible first | exact HB.out | apply below_alloc | apply pw_below_drewN | apply below_drew1) | exact HB.out)⟩⟩
                                   ·rw [if_neg c74] at H
                                    have c74b0 : (x10_5 == 3) = false := beq_eq_false_iff_ne.mpr c74
                                    have c74b1 : (x10_5 != 3) = true := bne_iff_ne.mpr c74
                                    have H' := Aside0.mk H
                                    clear H; have p195 : 0 ≤ (0 : Int) := (by omega); have q195 : 0 < (t182.length : Int) := of_decide_eq_true (by first | (with_reducible assumption) | assumption); obtain ⟨ad195, e195, hx195_0⟩ := Kd.at_int (Kd.R_reads' HO_11.out).2.2 0 p195 q195; obtain rfl : ad193 = ad195 := (by injection e195); have qi195 : (0 < t182.length) = True := eq_true (by omega); (try rw [show ((0 : Int)).toNat = 0 from rfl] at hx195_0); (try rw [Addr.add_zero'] at hx195_0); replace p195 := eq_true p195; replace q195 := eq_true q195; have p196 : 0 ≤ (0 : Int) := (by omega); have q196 : 0 < (t182.length : Int) := of_decide_eq_true (by first | (with_reducible assumption) | assumption); obtain ⟨ad196, e196, hx196_0⟩ := Kd.at_int (Kd.R_reads' HO_11.out).2.2 0 p196 q196; obtain rfl : ad193 = ad196 := (by injection e196); have qi196 : (0 < t182.length) = True := eq_true (by omega); (try rw [show ((0 : Int)).toNat = 0 from rfl] at hx196_0); (try rw [Addr.add_zero'] at hx196_0); replace p196 := eq_true p196; replace q196 := eq_true q196; have p197 : 0 ≤ (0 : Int) := (by omega); have q197 : 0 < (t182.length : Int) := of_decide_eq_true (by first | (with_reducible assumption) | assumption); obtain ⟨ad197, e197, hx197_0⟩ := Kd.at_int (Kd.R_reads' HO_11.out).2.2 0 p197 q197; obtain rfl : ad193 = ad197 := (by injection e197); have qi197 : (0 < t182.length) = True := eq_true (by omega); (try rw [show ((0 : Int)).toNat = 0 from rfl] at hx197_0); (try rw [Addr.add_zero'] at hx197_0); replace p197 := eq_true p197; replace q197 := eq_true q197
                                    go_wp2
                                    subst hji59; go_meet
                                    case rel => exact ⟨_, (false), (by first | rfl | (simp; done) | (simp [*]; done)), H', ⟨by have := HK1.out; have := HJ1.out; have := HK3.out; have := HJ4.out; have := HK5.out; have := HJ27.out; have := HK7.out; first | omega | exact Nat.le_refl _⟩, ⟨by (with_reducible repeat (first | apply Kd.R_alloc | apply Kd.R_drewN | apply Kd.R_drew)); exact Kd.R_mono HO_4.out (fun _ hk => trivial)⟩, ⟨by repeat (first | (with_reducible first | exact HB.out | apply below_alloc | apply pw_below_drewN | apply below_drew1) | exact HB.out)⟩⟩
                                ·rw [if_neg c71] at H
                                 have c71b0 : (x10_5 == 2) = false := beq_eq_false_iff_ne.mpr c71
                                 have c71b1 : (x10_5 != 2) = true := bne_iff_ne.mpr c71
                                 by_cases c76 : x10_5 = 3
                                 ·rw [if_pos c76] at H
                                  have c76b0 : (x10_5 == 3) = true := beq_iff_eq.mpr c76
                                  have c76b1 : (x10_5 != 3) = false := bne_eq_false_iff_eq.mpr c76
                                  clear c76
                                  by_cases c77 : (x4_3.length : Int) > 1
                                  ·rw [if_pos c77] at H
                                   have c77b0 : decide (1 < (x4_3.length : Int)) = true := decide_eq_true c77
                                   have c77b1 : decide (1 < x4_3.length) = true := decide_eq_true (by omega)
                                   clear c77
                                   have H' := Aside0.mk H
                                   clear H; have p195 : 0 ≤ (0 : Int) := (by omega); have q195 : 0 < (t182.length : Int) := of_decide_eq_true (by first | (with_reducible assumption) | assumption); obtain ⟨ad195, e195, hx195_0⟩ := Kd.at_int (Kd.R_reads' HO_11.out).2.2 0 p195 q195; obtain rfl : ad193 = ad195 := (by injection e195); have qi195 : (0 < t182.length) = True := eq_true (by omega); (try rw [show ((0 : Int)).toNat = 0 from rfl] at hx195_0); (try rw [Addr.add_zero'] at hx195_0); replace p195 := eq_true p195; replace q195 := eq_true q195; have p199 : 0 ≤ (0 : Int) := (by omega); have q199 : 0 < (t182.length : Int) := of_decide_eq_true (by first | (with_reducible assumption) | assumption); obtain ⟨ad199, e199, hx199_0⟩ := Kd.at_int (Kd.R_reads' HO_11.out).2.2 0 p199 q199; obtain rfl : ad193 = ad199 := (by injection e199); have qi199 : (0 < t182.length) = True := eq_true (by omega); (try rw [show ((0 : Int)).toNat = 0 from rfl] at hx199_0); (try rw [Addr.add_zero'] at hx199_0); replace p199 := eq_true p199; replace q199 := eq_true q199
                                   go_wp2
                                   subst hji59; go_meet
                                   case rel => exact ⟨_, (decide ((wrap64 ((wrap64 ((wrap64 ((wrap64 (x5_3 + (wrap64 (t179 * (wrap64 ((x4_3.length : Int) - 1)))))) + t181)) - (rd t182 (wrap64 ((x4_3.length : Int) - 1))))) - (rd x4_3 (wrap64 ((x4_3.length : Int) - 1))))) ≥ (wrap64 ((x4_3.length : Int) - 1)))), (by first | rfl | (simp; done) | (simp only [← hji59] <;> (first | rfl | (rw [tdiv_mx]; done) | simp)) | (simp [*]; done)), H', ⟨by have := HK1.out; have := HJ1.out; have := HK3.out; have := HJ4.out; have := HK5.out; have := HJ27.out; have := HK7.out; first | omega | exact Nat.le_refl _⟩, ⟨by (with_reducible repeat (first | apply Kd.R_alloc | apply Kd.R_drewN | apply Kd.R_drew)); exact Kd.R_mono HO_4.out (fun _ hk => trivial)⟩, ⟨by repeat (first | (with_reducible first | exact HB.out | apply below_alloc | apply pw_below_drewN | apply below_drew1) | exact HB.out)⟩⟩
                                  ·rw [if_neg c77] at H
                                   have c77b0 : decide (1 < (x4_3.length : Int)) = false := decide_eq_false c77
                                   have c77b1 : decide (1 < x4_3.length) = false := decide_eq_false (by omega)
                                   clear c77
                                   have H' := Aside0.mk H
                                   clear H; have p195 : 0 ≤ (0 : Int) := (by omega); have q195 : 0 < (t182.length : Int) := of_decide_eq_true (by first | (with_reducible assumption) | assumption); obtain ⟨ad195, e195, hx195_0⟩ := Kd.at_int (Kd.R_reads' HO_11.out).2.2 0 p195 q195; obtain rfl : ad193 = ad195 := (by injection e195); have qi195 : (0 < t182.length) = True := eq_true (by omega); (try rw [show ((0 : Int)).toNat = 0 from rfl] at hx195_0); (try rw [Addr.add_zero'] at hx195_0); replace p195 := eq_true p195; replace q195 := eq_true q195
                                   go_wp2
                                   subst hji59; go_meet
                                   case rel => exact ⟨_, (false), (by first | rfl | (simp; done) | (simp [*]; done)), H', ⟨by have := HK1.out; have := HJ1.out; have := HK3.out; have := HJ4.out; have := HK5.out; have := HJ27.out; have := HK7.out; first | omega | exact Nat.le_refl _⟩, ⟨by (with_reducible repeat (first | apply Kd.R_alloc | apply Kd.R_drewN | apply Kd.R_drew)); exact Kd.R_mono HO_4.out (fun _ hk => trivial)⟩, ⟨by repeat (first | (with_reducible first | exact HB.out | apply below_alloc | apply pw_below_drewN | apply below_drew1) | exact HB.out)⟩⟩
                                 ·rw [if_neg c76] at H
                                  have c76b0 : (x10_5 == 3) = false := beq_eq_false_iff_ne.mpr c76
                                  have c76b1 : (x10_5 != 3) = true := bne_iff_ne.mpr c76
                                  have H' := Aside0.mk H
                                  clear H; have p195 : 0 ≤ (0 : Int) := (by omega); have q195 : 0 < (t182.length : Int) := of_decide_eq_true (by first | (with_reducible assumption) | assumption); obtain ⟨ad195, e195, hx195_0⟩ := Kd.at_int (Kd.R_reads' HO_11.out).2.2 0 p195 q195; obtain rfl : ad193 = ad195 := (by injection e195); have qi195 : (0 < t182.length) = True := eq_true (by omega); (try rw [show ((0 : Int)).toNat = 0 from rfl] at hx195_0); (try rw [Addr.add_zero'] at hx195_0); replace p195 := eq_true p195; replace q195 := eq_true q195
                                  go_wp2
                                  subst hji59; go_meet
                                  case rel => exact ⟨_, (false), (by first | rfl | (simp; done) | (simp [*]; done)), H', ⟨by have := HK1.out; have := HJ1.out; have := HK3.out; have := HJ4.out; have := HK5.out; have := HJ27.out; have := HK7.out; first | omega | exact Nat.le_refl _⟩, ⟨by (with_reducible repeat (first | apply Kd.R_alloc | apply Kd.R_drewN | apply Kd.R_drew)); exact Kd.R_mono HO_4.out (fun _ hk => trivial)⟩, ⟨by repeat (first | (with_reducible first | exact HB.out | apply below_alloc | apply pw_below_drewN | apply below_drew1) | exact HB.out)⟩⟩
                               ·rw [if_neg c70] at H
                                have c70b0 : ((wrap64 ((wrap64 ((wrap64 ((wrap64 (x5_3 + (wrap64 (t179 * (ji59))))) + t181)) - (rd t182 (ji59)))) - (rd x4_3 (ji59)))) == 0) = false := beq_eq_false_iff_ne.mpr c70
                                have c70b1 : ((wrap64 ((wrap64 ((wrap64 ((wrap64 (x5_3 + (wrap64 (t179 * (ji59))))) + t181)) - (rd t182 (ji59)))) - (rd x4_3 (ji59)))) != 0) = true := bne_iff_ne.mpr c70
                                have H' := Aside0.mk H
                                clear H; have p195 : 0 ≤ (0 : Int) := (by omega); have q195 : 0 < (t182.length : Int) := of_decide_eq_true (by first | (with_reducible assumption) | assumption); obtain ⟨ad195, e195, hx195_0⟩ := Kd.at_int (Kd.R_reads' HO_11.out).2.2 0 p195 q195; obtain rfl : ad193 = ad195 := (by injection e195); have qi195 : (0 < t182.length) = True := eq_true (by omega); (try rw [show ((0 : Int)).toNat = 0 from rfl] at hx195_0); (try rw [Addr.add_zero'] at hx195_0); replace p195 := eq_true p195; replace q195 := eq_true q195
                                go_wp2
                                subst hji59; go_meet
                                case rel => exact ⟨_, (true), (by first | rfl | (simp; done) | (simp [*]; done)), H', ⟨by have := HK1.out; have := HJ1.out; have := HK3.out; have := HJ4.out; have := HK5.out; have := HJ27.out; have := HK7.out; first | omega | exact Nat.le_refl _⟩, ⟨by (with_reducible repeat (first | apply Kd.R_alloc | apply Kd.R_drewN | apply Kd.R_drew)); exact Kd.R_mono HO_4.out (fun _ hk => trivial)⟩, ⟨by repeat (first | (with_reducible first | exact HB.out | apply below_alloc | apply pw_below_drewN | apply below_drew1) | exact HB.out)⟩⟩
                              ·rw [if_neg c69] at H
                               have c69b0 : (x10_5 == 1) = false := beq_eq_false_iff_ne.mpr c69
                               have c69b1 : (x10_5 != 1) = true := bne_iff_ne.mpr c69
                               by_cases c78 : x10_5 = 2
                               ·rw [if_pos c78] at H
                                have c78b0 : (x10_5 == 2) = true := beq_iff_eq.mpr c78
                                have c78b1 : (x10_5 != 2) = false := bne_eq_false_iff_eq.mpr c78
                                clear c78
                                by_cases c79 : (wrap64 ((wrap64 ((wrap64 ((wrap64 (x5_3 + (wrap64 (t179 * (ji59))))) + t181)) - (rd t182 (ji59)))) - (rd x4_3 (ji59)))) < (rd t182 0)
                                ·rw [if_pos c79] at H
                                 have c79b0 : decide ((wrap64 ((wrap64 ((wrap64 ((wrap64 (x5_3 + (wrap64 (t179 * (ji59))))) + t181)) - (rd t182 (ji59)))) - (rd x4_3 (ji59)))) < (rd t182 0)) = true := decide_eq_true c79
                                 clear c79
                                 have H' := Aside0.mk H
                                 clear H; have p195 : 0 ≤ (0 : Int) := (by omega); have q195 : 0 < (t182.length : Int) := of_decide_eq_true (by first | (with_reducible assumption) | assumption); obtain ⟨ad195, e195, hx195_0⟩ := Kd.at_int (Kd.R_reads' HO_11.out).2.2 0 p195 q195; obtain rfl : ad193 = ad195 := (by injection e195); have qi195 : (0 < t182.length) = True := eq_true (by omega); (try rw [show ((0 : Int)).toNat = 0 from rfl] at hx195_0); (try rw [Addr.add_zero'] at hx195_0); replace p195 := eq_true p195; replace q195 := eq_true q195; have p200 : 0 ≤ (0 : Int) := (by omega); have q200 : 0 < (t182.length : Int) := of_decide_eq_true (by first | (with_reducible assumption) | assumption); obtain ⟨ad200, e200, hx200_0⟩ := Kd.at_int (Kd.R_reads' HO_11.out).2.2 0 p200 q200; obtain rfl : ad193 = ad200 := (by injection e200); have qi200 : (0 < t182.length) = True := eq_true (by omega); (try rw [show ((0 : Int)).toNat = 0 from rfl] at hx200_0); (try rw [Addr.add_zero'] at hx200_0); replace p200 := eq_true p200; replace q200 := eq_true q200
                                 go_wp2
                                 subst hji59; go_meet
                                 case rel => exact ⟨_, (true), (by first | rfl | (simp; done) | (simp [*]; done)), H', ⟨by have := HK1.out; have := HJ1.out; have := HK3.out; have := HJ4.out; have := HK5.out; have := HJ27.out; have := HK7.out; first | omega | exact Nat.le_refl _⟩, ⟨by (with_reducible repeat (first | apply Kd.R_alloc | apply Kd.R_drewN | apply Kd.R_drew)); exact Kd.R_mono HO_4.out (fun _ hk => trivial)⟩, ⟨by repeat (first | (with_reducible first | exact HB.out | apply below_alloc | apply pw_below_drewN | apply below_drew1) | exact HB.out)⟩⟩
                                ·rw [if_neg c79] at H
                                 have c79b0 : decide ((wrap64 ((wrap64 ((wrap64 ((wrap64 (x5_3 + (wrap64 (t179 * (ji59))))) + t181)) - (rd t182 (ji59)))) - (rd x4_3 (ji59)))) < (rd t182 0)) = false := decide_eq_false c79
                                 clear c79
                                 by_cases c80 : (wrap64 ((wrap64 ((wrap64 ((wrap64 (x5_3 + (wrap64 (t179 * (ji59))))) + t181)) - (rd t182 (ji59)))) - (rd x4_3 (ji59)))) > (wrap64 ((rd t182 0) + 1))
                                 ·rw [if_pos c80] at H
                                  have c80b0 : decide ((wrap64 ((rd t182 0) + 1)) < (wrap64 ((wrap64 ((wrap64 ((wrap64 (x5_3 + (wrap64 (t179 * (ji59))))) + t181)) - (rd t182 (ji59)))) - (rd x4_3 (ji59))))) = true := decide_eq_true c80
                                  clear c80
                                  have H' := Aside0.mk H
                                  clear H; have p195 : 0 ≤ (0 : Int) := (by omega); have q195 : 0 < (t182.length : Int) := of_decide_eq_true (by first | (with_reducible assumption) | assumption); obtain ⟨ad195, e195, hx195_0⟩ := Kd.at_int (Kd.R_reads' HO_11.out).2.2 0 p195 q195; obtain rfl : ad193 = ad195 := (by injection e195); have qi195 : (0 < t182.length) = True := eq_true (by omega); (try rw [show ((0 : Int)).toNat = 0 from rfl] at hx195_0); (try rw [Addr.add_zero'] at hx195_0); replace p195 := eq_true p195; replace q195 := eq_true q195; have p200 : 0 ≤ (0 : Int) := (by omega); have q200 : 0 < (t182.length : Int) := of_decide_eq_true (by first | (with_reducible assumption) | assumption); obtain ⟨ad200, e200, hx200_0⟩ := Kd.at_int (Kd.R_reads' HO_11.out).2.2 0 p200 q200; obtain rfl : ad193 = ad200 := (by injection e200); have qi200 : (0 < t182.length) = True := eq_true (by omega); (try rw [show ((0 : Int)).toNat = 0 from rfl] at hx200_0); (try rw [Addr.add_zero'] at hx200_0); replace p200 := eq_true p200; replace q200 := eq_true q200; have p201 : 0 ≤ (0 : Int) := (by omega); have q201 : 0 < (t182.length : Int) := of_decide_eq_true (by first | (with_reducible assumption) | assumption); obtain ⟨ad201, e201, hx201_0⟩ := Kd.at_int (Kd.R_reads' HO_11.out).2.2 0 p201 q201; obtain rfl : ad193 = ad201 := (by injection e201); have qi201 : (0 < t182.length) = True := eq_true (by omega); (try rw [show ((0 : Int)).toNat = 0 from rfl] at hx201_0); (try rw [Addr.add_zero'] at hx201_0); replace p201 := eq_true p201; replace q201 := eq_true q201
                                  go_wp2
                                  subst hji59; go_meet
                                  case rel => exact ⟨_, (true), (by first | rfl | (simp; done) | (simp [*]; done)), H', ⟨by have := HK1.out; have := HJ1.out; have := HK3.out; have := HJ4.out; have := HK5.out; have := HJ27.out; have := HK7.out; first | omega | exact Nat.le_refl _⟩, ⟨by (with_reducible repeat (first | apply Kd.R_alloc | apply Kd.R_drewN | apply Kd.R_drew)); exact Kd.R_mono HO_4.out (fun _ hk => trivial)⟩, ⟨by repeat (first | (with_reducible first | exact HB.out | apply below_alloc | apply pw_below_drewN | apply below_drew1) | exact HB.out)⟩⟩
                                 ·rw [if_neg c80] at H
                                  have c80b0 : decide ((wrap64 ((rd t182 0) + 1)) < (wrap64 ((wrap64 ((wrap64 ((wrap64 (x5_3 + (wrap64 (t179 * (ji59))))) + t181)) - (rd t182 (ji59)))) - (rd x4_3 (ji59))))) = false := decide_eq_false c80
                                  clear c80
                                  by_cases c81 : x10_5 = 3
                                  ·rw [if_pos c81] at H
                                   have c81b0 : (x10_5 == 3) = true := beq_iff_eq.mpr c81
                                   have c81b1 : (x10_5 != 3) = false := bne_eq_false_iff_eq.mpr c81
                                   clear c81
                                   by_cases c82 : (x4_3.length : Int) > 1
                                   ·rw [if_pos c82] at H
                                    have c82b0 : decide (1 < (x4_3.length : Int)) = true := decide_eq_true c82
                                    have c82b1 : decide (1 < x4_3.length) = true := decide_eq_true (by omega)
                                    clear c82
                                    have H' := Aside0.mk H
                                    clear H; have p195 : 0 ≤ (0 : Int) := (by omega); have q195 : 0 < (t182.length : Int) := of_decide_eq_true (by first | (with_reducible assumption) | assumption); obtain ⟨ad195, e195, hx195_0⟩ := Kd.at_int (Kd.R_reads' HO_11.out).2.2 0 p195 q195; obtain rfl : ad193 = ad195 := (by injection e195); have qi195 : (0 < t182.length) = True := eq_true (by omega); (try rw [show ((0 : Int)).toNat = 0 from rfl] at hx195_0); (try rw [Addr.add_zero'] at hx195_0); replace p195 := eq_true p195; replace q195 := eq_true q195; have p200 : 0 ≤ (0 : Int) := (by omega); have q200 : 0 < (t182.length : Int) := of_decide_eq_true (by first | (with_reducible assumption) | assumption); obtain ⟨ad200, e200, hx200_0⟩ := Kd.at_int (Kd.R_reads' HO_11.out).2.2 0 p200 q200; obtain rfl : ad193 = ad200 := (by injection e200); have qi200 : (0 < t182.length) = True := eq_true (by omega); (try rw [show ((0 : Int)).toNat = 0 from rfl] at hx200_0); (try rw [Addr.add_zero'] at hx200_0); replace p200 := eq_true p200; replace q200 := eq_true q200; have p201 : 0 ≤ (0 : Int) := (by omega); have q201 : 0 < (t182.length : Int) := of_decide_eq_true (by first | (with_reducible assumption) | assumption); obtain ⟨ad201, e201, hx201_0⟩ := Kd.at_int (Kd.R_reads' HO_11.out).2.2 0 p201 q201; obtain rfl : ad193 = ad201 := (by injection e201); have qi201 : (0 < t182.length) = True := eq_true (by omega); (try rw [show ((0 : Int)).toNat = 0 from rfl] at hx201_0); (try rw [Addr.add_zero'] at hx201_0); replace p201 := eq_true p201; replace q201 := eq_true q201; have p202 : 0 ≤ (0 : Int) := (by omega); have q202 : 0 < (t182.length : Int) := of_decide_eq_true (by first | (with_reducible assumption) | assumption); obtain ⟨ad202, e202, hx202_0⟩ := Kd.at_int (Kd.R_reads' HO_11.out).2.2 0 p202 q202; obtain rfl : ad193 = ad202 := (by injection e202); have qi202 : (0 < t182.length) = True := eq_true (by omega); (try rw [show ((0 : Int)).toNat = 0 from rfl] at hx202_0); (try rw [Addr.add_zero'] at hx202_0); replace p202 := eq_true p202; replace q202 := eq_true q202
                                    go_wp2
                                    subst hji59; go_meet
                                    case rel => exact ⟨_, (decide ((wrap64 ((wrap64 ((wrap64 ((wrap64 (x5_3 + (wrap64 (t179 * (wrap64 ((x4_3.length : Int) - 1)))))) + t181)) - (rd t182 (wrap64 ((x4_3.length : Int) - 1))))) - (rd x4_3 (wrap64 ((x4_3.length : Int) - 1))))) ≥ (wrap64 ((x4_3.length : Int) - 1)))), (by first | rfl | (simp; done) | (simp only [← hji59] <;> (first | rfl | (rw [tdiv_mx]; done) | simp)) | (simp [*]; done)), H', ⟨by have := HK1.out; have := HJ1.out; have := HK3.out; have := HJ4.out; have := HK5.out; have := HJ27.out; have := HK7.out; first | omega | exact Nat.le_refl _⟩, ⟨by (with_reducible repeat (first | apply Kd.R_alloc | apply Kd.R_drewN | apply Kd.R_drew)); exact Kd.R_mono HO_4.out (fun _ hk => trivial)⟩, ⟨by repeat (first | (with_reducible first | exact HB.out | apply below_alloc | apply pw_below_drewN | apply below_drew1) | exact HB.out)⟩⟩
                                   ·rw [if_neg c82] at H
                                    have c82b0 : decide (1 < (x4_3.length : Int)) = false := decide_eq_false c82
                                    have c82b1 : decide (1 < x4_3.length) = false := decide_eq_false (by omega)
                                    clear c82
                                    have H' := Aside0.mk H
                                    clear H; have p195 : 0 ≤ (0 : Int) := (by omega); have q195 : 0 < (t182.length : Int) := of_decide_eq_true (by first | (with_reducible assumption) | assumption); obtain ⟨ad195, e195, hx195_0⟩ := Kd.at_int (Kd.R_reads' HO_11.out).2.2 0 p195 q195; obtain rfl : ad193 = ad195 := (by injection e195); have qi195 : (0 < t182.length) = True := eq_true (by omega); (try rw [show ((0 : Int)).toNat = 0 from rfl] at hx195_0); (try rw [Addr.add_zero'] at hx195_0); replace p195 := eq_true p195; replace q195 := eq_true q195; have p200 : 0 ≤ (0 : Int) := (by omega); have q200 : 0 < (t182.length : Int) := of_decide_eq_true (by first | (with_reducible assumption) | assumption); obtain ⟨ad200, e200, hx200_0⟩ := Kd.at_int (Kd.R_reads' HO_11.out).2.2 0 p200 q200; obtain rfl : ad193 = ad200 := (by injection e200); have qi200 : (0 < t182.length) = True := eq_true (by omega); (try rw [show ((0 : Int)).toNat = 0 from rfl] at hx200_0); (try rw [Addr.add_zero'] at hx200_0); replace p200 := eq_true p200; replace q200 := eq_true q200; have p201 : 0 ≤ (0 : Int) := (by omega); have q201 : 0 < (t182.length : Int) := of_decide_eq_true (by first | (with_reducible assumption) | assumption); obtain ⟨ad201, e201, hx201_0⟩ := Kd.at_int (Kd.R_reads' HO_11.out).2.2 0 p201 q201; obtain rfl : ad193 = ad201 := (by injection e201); have qi201 : (0 < t182.length) = True := eq_true (by omega); (try rw [show ((0 : Int)).toNat = 0 from rfl] at hx201_0); (try rw [Addr.add_zero'] at hx201_0); replace p201 := eq_true p201; replace q201 := eq_true q201
                                    go_wp2
                                    subst hji59; go_meet
                                    case rel => exact ⟨_, (false), (by first | rfl | (simp; done) | (simp [*]; done)), H', ⟨by have := HK1.out; have := HJ1.out; have := HK3.out; have := HJ4.out; have := HK5.out; have := HJ27.out; have := HK7.out; first | omega | exact Nat.le_refl _⟩, ⟨by (with_reducible repeat (first | apply Kd.R_alloc | apply Kd.R_drewN | apply Kd.R_drew)); exact Kd.R_mono HO_4.out (fun _ hk => trivial)⟩, ⟨by repeat (first | (with_reducible first | exact HB.out | apply below_alloc | apply pw_below_drewN | apply below_drew1) | exact HB.out)⟩⟩
                                  ·rw [if_neg c81] at H
                                   have c81b0 : (x10_5 == 3) = false := beq_eq_false_iff_ne.mpr c81
                                   have c81b1 : (x10_5 != 3) = true := bne_iff_ne.mpr c81
                                   have H' := Aside0.mk H
                                   clear H; have p195 : 0 ≤ (0 : Int) := (by omega); have q195 : 0 < (t182.length : Int) := of_decide_eq_true (by first | (with_reducible assumption) | assumption); obtain ⟨ad195, e195, hx195_0⟩ := Kd.at_int (Kd.R_reads' HO_11.out).2.2 0 p195 q195; obtain rfl : ad193 = ad195 := (by injection e195); have qi195 : (0 < t182.length) = True := eq_true (by omega); (try rw [show ((0 : Int)).toNat = 0 from rfl] at hx195_0); (try rw [Addr.add_zero'] at hx195_0); replace p195 := eq_true p195; replace q195 := eq_true q195; have p200 : 0 ≤ (0 : Int) := (by omega); have q200 : 0 < (t182.length : Int) := of_decide_eq_true (by first | (with_reducible assumption) | assumption); obtain ⟨ad200, e200, hx200_0⟩ := Kd.at_int (Kd.R_reads' HO_11.out).2.2 0 p200 q200; obtain rfl : ad193 = ad200 := (by injection e200); have qi200 : (0 < t182.length) = True := eq_true (by omega); (try rw [show ((0 : Int)).toNat = 0 from rfl] at hx200_0); (try rw [Addr.add_zero'] at hx200_0); replace p200 := eq_true p200; replace q200 := eq_true q200; have p201 : 0 ≤ (0 : Int) := (by omega); have q201 : 0 < (t182.length : Int) := of_decide_eq_true (by first | (with_reducible assumption) | assumption); obtain ⟨ad201, e201, hx201_0⟩ := Kd.at_int (Kd.R_reads' HO_11.out).2.2 0 p201 q201; obtain rfl : ad193 = ad201 := (by injection e201); have qi201 : (0 < t182.length) = True := eq_true (by omega); (try rw [show ((0 : Int)).toNat = 0 from rfl] at hx201_0); (try rw [Addr.add_zero'] at hx201_0); replace p201 := eq_true p201; replace q201 := eq_true q201
                                   go_wp2
                                   subst hji59; go_meet
                                   case rel => exact ⟨_, (false), (by first | rfl | (simp; done) | (simp [*]; done)), H', ⟨by have := HK1.out; have := HJ1.out; have := HK3.out; have := HJ4.out; have := HK5.out; have := HJ27.out; have := HK7.out; first | omega | exact Nat.le_refl _⟩, ⟨by (with_reducible repeat (first | apply Kd.R_alloc | apply Kd.R_drewN | apply Kd.R_drew)); exact Kd.R_mono HO_4.out (fun _ hk => trivial)⟩, ⟨by repeat (first | (with_reducible first | exact HB.out | apply below_alloc | apply pw_below_drewN | apply below_drew1) | exact HB.out)⟩⟩
                               ·rw [if_neg c78] at H
                                have c78b0 : (x10_5 == 2) = false := beq_eq_false_iff_ne.mpr c78
                                have c78b1 : (x10_5 != 2) = true := bne_iff_ne.mpr c78
                                by_cases c83 : x10_5 = 3
                                ·rw [if_pos c83] at H
                                 have c83b0 : (x10_5 == 3) = true := beq_iff_eq.mpr c83
                                 have c83b1 : (x10_5 != 3) = false := bne_eq_false_iff_eq.mpr c83
                                 clear c83
                                 by_cases c84 : (x4_3.length : Int) > 1
                                 ·rw [if_pos c84] at H
                                  have c84b0 : decide (1 < (x4_3.length : Int)) = true := decide_eq_true c84
                                  have c84b1 : decide (1 < x4_3.length) = true := decide_eq_true (by omega)
                                  clear c84
                                  have H' := Aside0.mk H
                                  clear H; have p195 : 0 ≤ (0 : Int) := (by omega); have q195 : 0 < (t182.length : Int) := of_decide_eq_true (by first | (with_reducible assumption) | assumption); obtain ⟨ad195, e195, hx195_0⟩ := Kd.at_int (Kd.R_reads' HO_11.out).2.2 0 p195 q195; obtain rfl : ad193 = ad195 := (by injection e195); have qi195 : (0 < t182.length) = True := eq_true (by omega); (try rw [show ((0 : Int)).toNat = 0 from rfl] at hx195_0); (try rw [Addr.add_zero'] at hx195_0); replace p195 := eq_true p195; replace q195 := eq_true q195; have p203 : 0 ≤ (0 : Int) := (by omega); have q203 : 0 < (t182.length : Int) := of_decide_eq_true (by first | (with_reducible assumption) | assumption); obtain ⟨ad203, e203, hx203_0⟩ := Kd.at_int (Kd.R_reads' HO_11.out).2.2 0 p203 q203; obtain rfl : ad193 = ad203 := (by injection e203); have qi203 : (0 < t182.length) = True := eq_true (by omega); (try rw [show ((0 : Int)).toNat = 0 from rfl] at hx203_0); (try rw [Addr.add_zero'] at hx203_0); replace p203 := eq_true p203; replace q203 := eq_true q203
                                  go_wp2
                                  subst hji59; go_meet
                                  case rel => exact ⟨_, (decide ((wrap64 ((wrap64 ((wrap64 ((wrap64 (x5_3 + (wrap64 (t179 * (wrap64 ((x4_3.length : Int) - 1)))))) + t181)) - (rd t182 (wrap64 ((x4_3.length : Int) - 1))))) - (rd x4_3 (wrap64 ((x4_3.length : Int) - 1))))) ≥ (wrap64 ((x4_3.length : Int) - 1)))), (by first | rfl | (simp; done) | (simp only [← hji59] <;> (first | rfl | (rw [tdiv_mx]; done) | simp)) | (simp [*]; done)), H', ⟨by have := HK1.out; have := HJ1.out; have := HK3.out; have := HJ4.out; have := HK5.out; have := HJ27.out; have := HK7.out; first | omega | exact Nat.le_refl _⟩, ⟨by (with_reducible repeat (first | apply Kd.R_alloc | apply Kd.R_drewN | apply Kd.R_drew)); exact Kd.R_mono HO_4.out (fun _ hk => trivial)⟩, ⟨by repeat (first | (with_reducible first | exact HB.out | apply below_alloc | apply pw_below_drewN | apply below_drew1) | exact HB.out)⟩⟩
                                 ·rw [if_neg c84] at H
                                  have c84b0 : decide (1 < (x4_3.length : Int)) = false := decide_eq_false c84
                                  have c84b1 : decide (1 < x4_3.length) = false := decide_eq_false (by omega)
                                  clear c84
                                  have H' := Aside0.mk H
                                  clear H; have p195 : 0 ≤ (0 : Int) := (by omega); have q195 : 0 < (t182.length : Int) := of_decide_eq_true (by first | (with_reducible assumption) | assumption); obtain ⟨ad195, e195, hx195_0⟩ := Kd.at_int (Kd.R_reads' HO_11.out).2.2 0 p195 q195; obtain rfl : ad193 = ad195 := (by injection e195); have qi195 : (0 < t182.length) = True := eq_true (by omega); (try rw [show ((0 : Int)).toNat = 0 from rfl] at hx195_0); (try rw [Addr.add_zero'] at hx195_0); replace p195 := eq_true p195; replace q195 := eq_true q195
                                  go_wp2
                                  subst hji59; go_meet
                                  case rel => exact ⟨_, (false), (by first | rfl | (simp; done) | (simp [*]; done)), H', ⟨by have := HK1.out; have := HJ1.out; have := HK3.out; have := HJ4.out; have := HK5.out; have := HJ27.out; have := HK7.out; first | omega | exact Nat.le_refl _⟩, ⟨by (with_reducible repeat (first | apply Kd.R_alloc | apply Kd.R_drewN | apply Kd.R_drew)); exact Kd.R_mono HO_4.out (fun _ hk => trivial)⟩, ⟨by repeat (first | (with_reducible first | exact HB.out | apply below_alloc | apply pw_below_drewN | apply below_drew1) | exact HB.out)⟩⟩
                                ·rw [if_neg c83] at H
                                 have c83b0 : (x10_5 == 3) = false := beq_eq_false_iff_ne.mpr c83
                                 have c83b1 : (x10_5 != 3) = true := bne_iff_ne.mpr c83
                                 have H' := Aside0.mk H
                                 clear H; have p195 : 0 ≤ (0 : Int) := (by omega); have q195 : 0 < (t182.length : Int) := of_decide_eq_true (by first | (with_reducible assumption) | assumption); obtain ⟨ad195, e195, hx195_0⟩ := Kd.at_int (Kd.R_reads' HO_11.out).2.2 0 p195 q195; obtain rfl : ad193 = ad195 := (by injection e195); have qi195 : (0 < t182.length) = True := eq_true (by omega); (try rw [show ((0 : Int)).toNat = 0 from rfl] at hx195_0); (try rw [Addr.add_zero'] at hx195_0); replace p195 := eq_true p195; replace q195 := eq_true q195
                                 go_wp2
                                 subst hji59; go_meet
                                 case rel => exact ⟨_, (false), (by first | rfl | (simp; done) | (simp [*]; done)), H', ⟨by have := HK1.out; have := HJ1.out; have := HK3.out; have := HJ4.out; have := HK5.out; have := HJ27.out; have := HK7.out; first | omega | exact Nat.le_refl _⟩, ⟨by (with_reducible repeat (first | apply Kd.R_alloc | apply Kd.R_drewN | apply Kd.R_drew)); exact Kd.R_mono HO_4.out (fun _ hk => trivial)⟩, ⟨by repeat (first | (with_reducible first | exact HB.out | apply below_alloc | apply pw_below_drewN | apply below_drew1) | exact HB.out)⟩⟩
                             ·rw [if_neg c68] at H
                              have c68b0 : ((rd t182 0) == 0) = false := beq_eq_false_iff_ne.mpr c68
                              have c68b1 : ((rd t182 0) != 0) = true := bne_iff_ne.mpr c68
                              have H' := Aside0.mk H
                              clear H; have p195 : 0 ≤ (0 : Int) := (by omega); have q195 : 0 < (t182.length : Int) := of_decide_eq_true (by first | (with_reducible assumption) | assumption); obtain ⟨ad195, e195, hx195_0⟩ := Kd.at_int (Kd.R_reads' HO_11.out).2.2 0 p195 q195; obtain rfl : ad193 = ad195 := (by injection e195); have qi195 : (0 < t182.length) = True := eq_true (by omega); (try rw [show ((0 : Int)).toNat = 0 from rfl] at hx195_0); (try rw [Addr.add_zero'] at hx195_0); replace p195 := eq_true p195; replace q195 := eq_true q195
                              go_wp2
                              subst hji59; go_meet
                              case rel => exact ⟨_, (true), (by first | rfl | (simp; done) | (simp [*]; done)), H', ⟨by have := HK1.out; have := HJ1.out; have := HK3.out; have := HJ4.out; have := HK5.out; have := HJ27.out; have := HK7.out; first | omega | exact Nat.le_refl _⟩, ⟨by (with_reducible repeat (first | apply Kd.R_alloc | apply Kd.R_drewN | apply Kd.R_drew)); exact Kd.R_mono HO_4.out (fun _ hk => trivial)⟩, ⟨by repeat (first | (with_reducible first | exact HB.out | apply below_alloc | apply pw_below_drewN | apply below_drew1) | exact HB.out)⟩⟩
                            ·rw [if_neg c67] at H
                             exact absurd H (by simp)
                           ·as_aux_lemma =>
                            rw [if_neg c66] at H
                            have c66b0 : (x10_5 == 0) = false := beq_eq_false_iff_ne.mpr c66
                            have c66b1 : (x10_5 != 0) = true := bne_iff_ne.mpr c66
                            (first | rw [c66b0] | (simp only [i64_w, i32_w]; rw [c66b0]) | skip)
                            by_cases c85 : x10_5 = 1
                            ·as_aux_lemma =>
                             rw [if_pos c85] at H
                             have c85b0 : (x10_5 == 1) = true := beq_iff_eq.mpr c85
                             have c85b1 : (x10_5 != 1) = false := bne_eq_false_iff_eq.mpr c85
                             clear c85
                             by_cases c86 : (wrap64 ((wrap64 ((wrap64 ((wrap64 (x5_3 + (wrap64 (t179 * (ji59))))) + t181)) - (rd t182 (ji59)))) - (rd x4_3 (ji59)))) = 0
                             ·as_aux_lemma =>
                              rw [if_pos c86] at H
                              have c86b0 : ((wrap64 ((wrap64 ((wrap64 ((wrap64 (x5_3 + (wrap64 (t179 * (ji59))))) + t181)) - (rd t182 (ji59)))) - (rd x4_3 (ji59)))) == 0) = true := beq_iff_eq.mpr c86
                              have c86b1 : ((wrap64 ((wrap64 ((wrap64 ((wrap64 (x5_3 + (wrap64 (t179 * (ji59))))) + t181)) - (rd t182 (ji59)))) - (rd x4_3 (ji59)))) != 0) = false := bne_eq_false_iff_eq.mpr c86
                              clear c86
                              by_cases c87 : x10_5 = 2
                              ·rw [if_pos c87] at H
                               have c87b0 : (x10_5 == 2) = true := beq_iff_eq.mpr c87
                               have c87b1 : (x10_5 != 2) = false := bne_eq_false_iff_eq.mpr c87
                               clear c87
                               by_cases c88 : 0 < (t182.length : Int)
                               ·rw [if_pos c88] at H
                                have c88b0 : decide (0 < (t182.length : Int)) = true := decide_eq_true c88
                                have c88b1 : decide (0 < t182.length) = true := decide_eq_true (by omega)
                                clear c88
                                by_cases c89 : (wrap64 ((wrap64 ((wrap64 ((wrap64 (x5_3 + (wrap64 (t179 * (ji59))))) + t181)) - (rd t182 (ji59)))) - (rd x4_3 (ji59)))) < (rd t182 0)
                                ·rw [if_pos c89] at H
                                 have c89b0 : decide ((wrap64 ((wrap64 ((wrap64 ((wrap64 (x5_3 + (wrap64 (t179 * (ji59))))) + t181)) - (rd t182 (ji59)))) - (rd x4_3 (ji59)))) < (rd t182 0)) = true := decide_eq_true c89
                                 clear c89
                                 have H' := Aside0.mk H
                                 clear H; have p204 : 0 ≤ (0 : Int) := (by omega); have q204 : 0 < (t182.length : Int) := of_decide_eq_true (by first | (with_reducible assumption) | assumption); obtain ⟨ad204, e204, hx204_0⟩ := Kd.at_int (Kd.R_reads' HO_11.out).2.2 0 p204 q204; obtain rfl : ad193 = ad204 := (by injection e204); have qi204 : (0 < t182.length) = True := eq_true (by omega); (try rw [show ((0 : Int)).toNat = 0 from rfl] at hx204_0); (try rw [Addr.add_zero'] at hx204_0); replace p204 := eq_true p204; replace q204 := eq_true q204
                                 go_wp2
                                 subst hji59; go_meet
                                 case rel => exact ⟨_, (true), (by first | rfl | (simp; done) | (simp [*]; done)), H', ⟨by have := HK1.out; have := HJ1.out; have := HK3.out; have := HJ4.out; have := HK5.out; have := HJ27.out; have := HK7.out; first | omega | exact Nat.le_refl _⟩, ⟨by (with_reducible repeat (first | apply Kd.R_alloc | apply Kd.R_drewN | apply Kd.R_drew)); exact Kd.R_mono HO_4.out (fun _ hk => trivial)⟩, ⟨by repeat (first | (with_reducible first | exact HB.out | apply below_alloc | apply pw_below_drewN | apply below_drew1) | exact HB.out)⟩⟩
                                ·rw [if_neg c89] at H
                                 have c89b0 : decide ((wrap64 ((wrap64 ((wrap64 ((wrap64 (x5_3 + (wrap64 (t179 * (ji59))))) + t181)) - (rd t182 (ji59)))) - (rd x4_3 (ji59)))) < (rd t182 0)) = false := decide_eq_false c89
                                 clear c89
                                 by_cases c90 : (wrap64 ((wrap64 ((wrap64 ((wrap64 (x5_3 + (wrap64 (t179 * (ji59))))) + t181)) - (rd t182 (ji59)))) - (rd x4_3 (ji59)))) > (wrap64 ((rd t182 0) + 1))
                                 ·rw [if_pos c90] at H
                                  have c90b0 : decide ((wrap64 ((rd t182 0) + 1)) < (wrap64 ((wrap64 ((wrap64 ((wrap64 (x5_3 + (wrap64 (t179 * (ji59))))) + t181)) - (rd t182 (ji59)))) - (rd x4_3 (ji59))))) = true := decide_eq_true c90
                                  clear c90
                                  have H' := Aside0.mk H
                                  clear H; have p204 : 0 ≤ (0 : Int) := (by omega); have q204 : 0 < (t182.length : Int) := of_decide_eq_true (by first | (with_reducible assumption) | assumption); obtain ⟨ad204, e204, hx204_0⟩ := Kd.at_int (Kd.R_reads' HO_11.out).2.2 0 p204 q204; obtain rfl : ad193 = ad204 := (by injection e204); have qi204 : (0 < t182.length) = True := eq_true (by omega); (try rw [show ((0 : Int)).toNat = 0 from rfl] at hx204_0); (try rw [Addr.add_zero'] at hx204_0); replace p204 := eq_true p204; replace q204 := eq_true q204; have p205 : 0 ≤ (0 : Int) := (by omega); have q205 : 0 < (t182.length : Int) := of_decide_eq_true (by first | (with_reducible assumption) | assumption); obtain ⟨ad205, e205, hx205_0⟩ := Kd.at_int (Kd.R_reads' HO_11.out).2.2 0 p205 q205; obtain rfl : ad193 = ad205 := (by injection e205); have qi205 : (0 < t182.length) = True := eq_true (by omega); (try rw [show ((0 : Int)).toNat = 0 from rfl] at hx205_0); (try rw [Addr.add_zero'] at hx205_0); replace p205 := eq_true p205; replace q205 := eq_true q205
                                  go_wp2
                                  subst hji59; go_meet
                                  case rel => exact ⟨_, (true), (by first | rfl | (simp; done) | (simp [*]; done)), H', ⟨by have := HK1.out; have := HJ1.out; have := HK3.out; have := HJ4.out; have := HK5.out; have := HJ27.out; have := HK7.out; first | omega | exact Nat.le_refl _⟩, ⟨by (with_reducible repeat (first | apply Kd.R_alloc | apply Kd.R_drewN | apply Kd.R_drew)); exact Kd.R_mono HO_4.out (fun _ hk => trivial)⟩, ⟨by repeat (first | (with_reducible first | exact HB.out | apply below_alloc | apply pw_below_drewN | apply below_drew1) | exact HB.out)⟩⟩
                                 ·rw [if_neg c90] at H
                                  have c90b0 : decide ((wrap64 ((rd t182 0) + 1)) < (wrap64 ((wrap64 ((wrap64 ((wrap64 (x5_3 + (wrap64 (t179 * (ji59))))) + t181)) - (rd t182 (ji59)))) - (rd x4_3 (ji59))))) = false := decide_eq_false c90
                                  clear c90
                                  by_cases c91 : x10_5 = 3
                                  ·rw [if_pos c91] at H
                                   have c91b0 : (x10_5 == 3) = true := beq_iff_eq.mpr c91
                                   have c91b1 : (x10_5 != 3) = false := bne_eq_false_iff_eq.mpr c91
                                   clear c91
                                   by_cases c92 : (x4_3.length : Int) > 1
                                   ·rw [if_pos c92] at H
                                    have c92b0 : decide (1 < (x4_3.length : Int)) = true := decide_eq_true c92
                                    have c92b1 : decide (1 < x4_3.length) = true := decide_eq_true (by omega)
                                    clear c92
                                    by_cases c93 : (rd t182 0) = 0
                                    ·rw [if_pos c93] at H
                                     have c93b0 : ((rd t182 0) == 0) = true := beq_iff_eq.mpr c93
                                     have c93b1 : ((rd t182 0) != 0) = false := bne_eq_false_iff_eq.mpr c93
                                     clear c93
                                     have H' := Aside0.mk H
                                     clear H; have p204 : 0 ≤ (0 : Int) := (by omega); have q204 : 0 < (t182.length : Int) := of_decide_eq_true (by first | (with_reducible assumption) | assumption); obtain ⟨ad204, e204, hx204_0⟩ := Kd.at_int (Kd.R_reads' HO_11.out).2.2 0 p204 q204; obtain rfl : ad193 = ad204 := (by injection e204); have qi204 : (0 < t182.length) = True := eq_true (by omega); (try rw [show ((0 : Int)).toNat = 0 from rfl] at hx204_0); (try rw [Addr.add_zero'] at hx204_0); replace p204 := eq_true p204; replace q204 := eq_true q204; have p205 : 0 ≤ (0 : Int) := (by omega); have q205 : 0 < (t182.length : Int) := of_decide_eq_true (by first | (with_reducible assumption) | assumption); obtain ⟨ad205, e205, hx205_0⟩ := Kd.at_int (Kd.R_reads' HO_11.out).2.2 0 p205 q205; obtain rfl : ad193 = ad205 := (by injection e205); have qi205 : (0 < t182.length) = True := eq_true (by omega); (try rw [show ((0 : Int)).toNat = 0 from rfl] at hx205_0); (try rw [Addr.add_zero'] at hx205_0); replace p205 := eq_true p205; replace q205 := eq_true q205; have p206 : 0 ≤ (0 : Int) := (by omega); have q206 : 0 < (t182.length : Int) := of_decide_eq_true (by first | (with_reducible assumption) | assumption); obtain ⟨ad206, e206, hx206_0⟩ := Kd.at_int (Kd.R_reads' HO_11.out).2.2 0 p206 q206; obtain rfl : ad193 = ad206 := (by injection e206); have qi206 : (0 < t182.length) = True := eq_true (by omega); (try rw [show ((0 : Int)).toNat = 0 from rfl] at hx206_0); (try rw [Addr.add_zero'] at hx206_0); replace p206 := eq_true p206; replace q206 := eq_true q206
                                     go_wp2
                                     subst hji59; go_meet
                                     case rel => exact ⟨_, (decide ((wrap64 ((wrap64 ((wrap64 ((wrap64 (x5_3 + (wrap64 (t179 * (wrap64 ((x4_3.length : Int) - 1)))))) + t181)) - (rd t182 (wrap64 ((x4_3.length : Int) - 1))))) - (rd x4_3 (wrap64 ((x4_3.length : Int) - 1))))) ≥ (wrap64 ((x4_3.length : Int) - 1)))), (by first | rfl | (simp; done) | (simp only [← hji59] <;> (first | rfl | (rw [tdiv_mx]; done) | simp)) | (simp [*]; done)), H', ⟨by have := HK1.out; have := HJ1.out; have := HK3.out; have := HJ4.out; have := HK5.out; have := HJ27.out; have := HK7.out; first | omega | exact Nat.le_refl _⟩, ⟨by (with_reducible repeat (first | apply Kd.R_alloc | apply Kd.R_drewN | apply Kd.R_drew)); exact Kd.R_mono HO_4.out (fun _ hk => trivial)⟩, ⟨by repeat (first | (with_reducible first | exact HB.out | apply below_alloc | apply pw_below_drewN | apply below_drew1) | exact HB.out)⟩⟩
                                    ·rw [if_neg c93] at H
                                     have c93b0 : ((rd t182 0) == 0) = false := beq_eq_false_iff_ne.mpr c93
                                     have c93b1 : ((rd t182 0) != 0) = true := bne_iff_ne.mpr c93
                                     have H' := Aside0.mk H
                                     clear H; have p204 : 0 ≤ (0 : Int) := (by omega); have q204 : 0 < (t182.length : Int) := of_decide_eq_true (by first | (with_reducible assumption) | assumption); obtain ⟨ad204, e204, hx204_0⟩ := Kd.at_int (Kd.R_reads' HO_11.out).2.2 0 p204 q204; obtain rfl : ad193 = ad204 := (by injection e204); have qi204 : (0 < t182.length) = True := eq_true (by omega); (try rw [show ((0 : Int)).toNat = 0 from rfl] at hx204_0); (try rw [Addr.add_zero'] at hx204_0); replace p204 := eq_true p204; replace q204 := eq_true q204; have p205 : 0 ≤ (0 : Int) := (by omega); have q205 : 0 < (t182.length : Int) := of_decide_eq_true (by first | (with_reducible assumption) | assumption); obtain ⟨ad205, e205, hx205_0⟩ := Kd.at_int (Kd.R_reads' HO_11.out).2.2 0 p205 q205; obtain rfl : ad193 = ad205 := (by injection e205); have qi205 : (0 < t182.length) = True := eq_true (by omega); (try rw [show ((0 : Int)).toNat = 0 from rfl] at hx205_0); (try rw [Addr.add_zero'] at hx205_0); replace p205 := eq_true p205; replace q205 := eq_true q205; have p206 : 0 ≤ (0 : Int) := (by omega); have q206 : 0 < (t182.length : Int) := of_decide_eq_true (by first | (with_reducible assumption) | assumption); obtain ⟨ad206, e206, hx206_0⟩ := Kd.at_int (Kd.R_reads' HO_11.out).2.2 0 p206 q206; obtain rfl : ad193 = ad206 := (by injection e206); have qi206 : (0 < t182.length) = True := eq_true (by omega); (try rw [show ((0 : Int)).toNat = 0 from rfl] at hx206_0); (try rw [Addr.add_zero'] at hx206_0); replace p206 := eq_true p206; replace q206 := eq_true q206
                                     go_wp2
                                     subst hji59; go_meet
                                     case rel => exact ⟨_, (true), (by first | rfl | (simp; done) | (simp [*]; done)), H', ⟨by have := HK1.out; have := HJ1.out; have := HK3.out; have := HJ4.out; have := HK5.out; have := HJ27.out; have := HK7.out; first | omega | exact Nat.le_refl _⟩, ⟨by (with_reducible repeat (first | apply Kd.R_alloc | apply Kd.R_drewN | apply Kd.R_drew)); exact Kd.R_mono HO_4.out (fun _ hk => trivial)⟩, ⟨by repeat (first | (with_reducible first | exact HB.out | apply below_alloc | apply pw_below_drewN | apply below_drew1) | exact HB.out)⟩⟩
                                   ·rw [if_neg c92] at H
                                    have c92b0 : decide (1 < (x4_3.length : Int)) = false := decide_eq_false c92
                                    have c92b1 : decide (1 < x4_3.length) = false := decide_eq_false (by omega)
                                    clear c92
                                    have H' := Aside0.mk H
                                    clear H; have p204 : 0 ≤ (0 : Int) := (by omega); have q204 : 0 < (t182.length : Int) := of_decide_eq_true (by first | (with_reducible assumption) | assumption); obtain ⟨ad204, e204, hx204_0⟩ := Kd.at_int (Kd.R_reads' HO_11.out).2.2 0 p204 q204; obtain rfl : ad193 = ad204 := (by injection e204); have qi204 : (0 < t182.length) = True := eq_true (by omega); (try rw [show ((0 : Int)).toNat = 0 from rfl] at hx204_0); (try rw [Addr.add_zero'] at hx204_0); replace p204 := eq_true p204; replace q204 := eq_true q204; have p205 : 0 ≤ (0 : Int) := (by omega); have q205 : 0 < (t182.length : Int) := of_decide_eq_true (by first | (with_reducible assumption) | assumption); obtain ⟨ad205, e205, hx205_0⟩ := Kd.at_int (Kd.R_reads' HO_11.out).2.2 0 p205 q205; obtain rfl : ad193 = ad205 := (by injection e205); have qi205 : (0 < t182.length) = True := eq_true (by omega); (try rw [show ((0 : Int)).toNat = 0 from rfl] at hx205_0); (try rw [Addr.add_zero'] at hx205_0); replace p205 := eq_true p205; replace q205 := eq_true q205
                                    go_wp2
                                    subst hji59; go_meet
                                    case rel => exact ⟨_, (false), (by first | rfl | (simp; done) | (simp [*]; done)), H', ⟨by have := HK1.out; have := HJ1.out; have := HK3.out; have := HJ4.out; have := HK5.out; have := HJ27.out; have := HK7.out; first | omega | exact Nat.le_refl _⟩, ⟨by (with_reducible repeat (first | apply Kd.R_alloc | apply Kd.R_drewN | apply Kd.R_drew)); exact Kd.R_mono HO_4.out (fun _ hk => trivial)⟩, ⟨by repeat (first | (with_reducible first | exact HB.out | apply below_alloc | apply pw_below_drewN | apply below_drew1) | exact HB.out)⟩⟩
                                  ·rw [if_neg c91] at H
                                   have c91b0 : (x10_5 == 3) = false := beq_eq_false_iff_ne.mpr c91
                                   have c91b1 : (x10_5 != 3) = true := bne_iff_ne.mpr c91
                                   have H' := Aside0.mk H
                                   clear H; have p204 : 0 ≤ (0 : Int) := (by omega); have q204 : 0 < (t182.length : Int) := of_decide_eq_true (by first | (with_reducible assumption) | assumption); obtain ⟨ad204, e204, hx204_0⟩ := Kd.at_int (Kd.R_reads' HO_11.out).2.2 0 p204 q204; obtain rfl : ad193 = ad204 := (by injection e204); have qi204 : (0 < t182.length) = True := eq_true (by omega); (try rw [show ((0 : Int)).toNat = 0 from rfl] at hx204_0); (try rw [Addr.add_zero'] at hx204_0); replace p204 := eq_true p204; replace q204 := eq_true q204; have p205 : 0 ≤ (0 : Int) := (by omega); have q205 : 0 < (t182.length : Int) := of_decide_eq_true (by first | (with_reducible assumption) | assumption); obtain ⟨ad205, e205, hx205_0⟩ := Kd.at_int (Kd.R_reads' HO_11.out).2.2 0 p205 q205; obtain rfl : ad193 = ad205 := (by injection e205); have qi205 : (0 < t182.length) = True := eq_true (by omega); (try rw [show ((0 : Int)).toNat = 0 from rfl] at hx205_0); (try rw [Addr.add_zero'] at hx205_0); replace p205 := eq_true p205; replace q205 := eq_true q205
                                   go_wp2
                                   subst hji59; go_meet
                                   case rel => exact ⟨_, (false), (by first | rfl | (simp; done) | (simp [*]; done)), H', ⟨by have := HK1.out; have := HJ1.out; have := HK3.out; have := HJ4.out; have := HK5.out; have := HJ27.out; have := HK7.out; first | omega | exact Nat.le_refl _⟩, ⟨by (with_reducible repeat (first | apply Kd.R_alloc | apply Kd.R_drewN | apply Kd.R_drew)); exact Kd.R_mono HO_4.out (fun _ hk => trivial)⟩, ⟨by repeat (first | (with_reducible first | exact HB.out | apply below_alloc | apply pw_below_drewN | apply below_drew1) | exact HB.out)⟩⟩
                               ·rw [if_neg c88] at H
                                exact absurd H (by simp)
                              ·rw [if_neg c87] at H
                               have c87b0 : (x10_5 == 2) = false := beq_eq_false_iff_ne.mpr c87
                               have c87b1 : (x10_5 != 2) = true := bne_iff_ne.mpr c87
                               by_cases c94 : x10_5 = 3
                               ·rw [if_pos c94] at H
                                have c94b0 : (x10_5 == 3) = true := beq_iff_eq.mpr c94
                                have c94b1 : (x10_5 != 3) = false := bne_eq_false_iff_eq.mpr c94
                                clear c94
                                by_cases c95 : (x4_3.length : Int) > 1
                                ·rw [if_pos c95] at H
                                 have c95b0 : decide (1 < (x4_3.length : Int)) = true := decide_eq_true c95
                                 have c95b1 : decide (1 < x4_3.length) = true := decide_eq_true (by omega)
                                 clear c95
                                 by_cases c96 : 0 < (t182.length : Int)
                                 ·rw [if_pos c96] at H
                                  have c96b0 : decide (0 < (t182.length : Int)) = true := decide_eq_true c96
                                  have c96b1 : decide (0 < t182.length) = true := decide_eq_true (by omega)
                                  clear c96
                                  by_cases c97 : (rd t182 0) = 0
                                  ·rw [if_pos c97] at H
                                   have c97b0 : ((rd t182 0) == 0) = true := beq_iff_eq.mpr c97
                                   have c97b1 : ((rd t182 0) != 0) = false := bne_eq_false_iff_eq.mpr c97
                                   clear c97
                                   have H' := Aside0.mk H
                                   clear H; have p207 : 0 ≤ (0 : Int) := (by omega); have q207 : 0 < (t182.length : Int) := of_decide_eq_true (by first | (with_reducible assumption) | assumption); obtain ⟨ad207, e207, hx207_0⟩ := Kd.at_int (Kd.R_reads' HO_11.out).2.2 0 p207 q207; obtain rfl : ad193 = ad207 := (by injection e207); have qi207 : (0 < t182.length) = True := eq_true (by omega); (try rw [show ((0 : Int)).toNat = 0 from rfl] at hx207_0); (try rw [Addr.add_zero'] at hx207_0); replace p207 := eq_true p207; replace q207 := eq_true q207
                                   go_wp2
                                   subst hji59; go_meet
                                   case rel => exact ⟨_, (decide ((wrap64 ((wrap64 ((wrap64 ((wrap64 (x5_3 + (wrap64 (t179 * (wrap64 ((x4_3.length : Int) - 1)))))) + t181)) - (rd t182 (wrap64 ((x4_3.length : Int) - 1))))) - (rd x4_3 (wrap64 ((x4_3.length : Int) - 1))))) ≥ (wrap64 ((x4_3.length : Int) - 1)))), (by first | rfl | (simp; done) | (simp only [← hji59] <;> (first | rfl | (rw [tdiv_mx]; done) | simp)) | (simp [*]; done)), H', ⟨by have := HK1.out; have := HJ1.out; have := HK3.out; have := HJ4.out; have := HK5.out; have := HJ27.out; have := HK7.out; first | omega | exact Nat.le_refl _⟩, ⟨by (with_reducible repeat (first | apply Kd.R_alloc | apply Kd.R_drewN | apply Kd.R_drew)); exact Kd.R_mono HO_4.out (fun _ hk => trivial)⟩, ⟨by repeat (first | (with_reducible first | exact HB.out | apply below_alloc | apply pw_below_drewN | apply below_drew1) | exact HB.out)⟩⟩
                                  ·rw [if_neg c97] at H
                                   have c97b0 : ((rd t182 0) == 0) = false := beq_eq_false_iff_ne.mpr c97
                                   have c97b1 : ((rd t182 0) != 0) = true := bne_iff_ne.mpr c97
                                   have H' := Aside0.mk H
                                   clear H; have p207 : 0 ≤ (0 : Int) := (by omega); have q207 : 0 < (t182.length : Int) := of_decide_eq_true (by first | (with_reducible assumption) | assumption); obtain ⟨ad207, e207, hx207_0⟩ := Kd.at_int (Kd.R_reads' HO_11.out).2.2 0 p207 q207; obtain rfl : ad193 = ad207 := (by injection e207); have qi207 : (0 < t182.length) = True := eq_true (by omega); (try rw [show ((0 : Int)).toNat = 0 from rfl] at hx207_0); (try rw [Addr.add_zero'] at hx207_0); replace p207 := eq_true p207; replace q207 := eq_true q207
                                   go_wp2
                                   subst hji59; go_meet
                                   case rel => exact ⟨_, (true), (by first | rfl | (simp; done) | (simp [*]; done)), H', ⟨by have := HK1.out; have := HJ1.out; have := HK3.out; have := HJ4.out; have := HK5.out; have := HJ27.out; have := HK7.out; first | omega | exact Nat.le_refl _⟩, ⟨by (with_reducible repeat (first | apply Kd.R_alloc | apply Kd.R_drewN | apply Kd.R_drew)); exact Kd.R_mono HO_4.out (fun _ hk => trivial)⟩, ⟨by repeat (first | (with_reducible first | exact HB.out | apply below_alloc | apply pw_below_drewN | apply below_drew1) | exact HB.out)⟩⟩
                                 ·rw [if_neg c96] at H
                                  exact absurd H (by simp)
                                ·rw [if_neg c95] at H
                                 have c95b0 : decide (1 < (x4_3.length : Int)) = false := decide_eq_false c95
                                 have c95b1 : decide (1 < x4_3.length) = false := decide_eq_false (by omega)
                                 clear c95
                                 have H' := Aside0.mk H
                                 clear H
                                 go_wp2
                                 subst hji59; go_meet
                                 case rel => exact ⟨_, (false), (by first | rfl | (simp; done) | (simp [*]; done)), H', ⟨by have := HK1.out; have := HJ1.out; have := HK3.out; have := HJ4.out; have := HK5.out; have := HJ27.out; have := HK7.out; first | omega | exact Nat.le_refl _⟩, ⟨by (with_reducible repeat (first | apply Kd.R_alloc | apply Kd.R_drewN | apply Kd.R_drew)); exact Kd.R_mono HO_4.out (fun _ hk => trivial)⟩, ⟨by repeat (first | (with_reducible first | exact HB.out | apply below_alloc | apply pw_below_drewN | apply below_drew1) | exact HB.out)⟩⟩
                               ·rw [if_neg c94] at H
                                have c94b0 : (x10_5 == 3) = false := beq_eq_false_iff_ne.mpr c94
                                have c94b1 : (x10_5 != 3) = true := bne_iff_ne.mpr c94
                                have H' := Aside0.mk H
                                clear H
                                go_wp2
                                subst hji59; go_meet
                                case rel => exact ⟨_, (false), (by first | rfl | (simp; done) | (simp [*]; done)), H', ⟨by have := HK1.out; have := HJ1.out; have := HK3.out; have := HJ4.out; have := HK5.out; have := HJ27.out; have := HK7.out; first | omega | exact Nat.le_refl _⟩, ⟨by (with_reducible repeat (first | apply Kd.R_alloc | apply Kd.R_drewN | apply Kd.R_drew)); exact Kd.R_mono HO_4.out (fun _ hk => trivial)⟩, ⟨by repeat (first | (with_reducible first | exact HB.out | apply below_alloc | apply pw_below_drewN | apply below_drew1) | exact HB.out)⟩⟩
                             ·rw [if_neg c86] at H
                              have c86b0 : ((wrap64 ((wrap64 ((wrap64 ((wrap64 (x5_3 + (wrap64 (t179 * (ji59))))) + t181)) - (rd t182 (ji59)))) - (rd x4_3 (ji59)))) == 0) = false := beq_eq_false_iff_ne.mpr c86
                              have c86b1 : ((wrap64 ((wrap64 ((wrap64 ((wrap64 (x5_3 + (wrap64 (t179 * (ji59))))) + t181)) - (rd t182 (ji59)))) - (rd x4_3 (ji59)))) != 0) = true := bne_iff_ne.mpr c86
                              have H' := Aside0.mk H
                              clear H
                              go_wp2
                              subst hji59; go_meet
                              case rel => exact ⟨_, (true), (by first | rfl | (simp; done) | (simp [*]; done)), H', ⟨by have := HK1.out; have := HJ1.out; have := HK3.out; have := HJ4.out; have := HK5.out; have := HJ27.out; have := HK7.out; first | omega | exact Nat.le_refl _⟩, ⟨by (with_reducible repeat (first | apply Kd.R_alloc | apply Kd.R_drewN | apply Kd.R_drew)); exact Kd.R_mono HO_4.out (fun _ hk => trivial)⟩, ⟨by repeat (first | (with_reducible first | exact HB.out | apply below_alloc | apply pw_below_drewN | apply below_drew1) | exact HB.out)⟩⟩
                            ·as_aux_lemma =>
                             rw [if_neg c85] at H
                             have c85b0 : (x10_5 == 1) = false := beq_eq_false_iff_ne.mpr c85
                             have c85b1 : (x10_5 != 1) = true := bne_iff_ne.mpr c85
                             by_cases c98 : x10_5 = 2
                             ·rw [if_pos c98] at H
                              have c98b0 : (x10_5 == 2) = true := beq_iff_eq.mpr c98
                              have c98b1 : (x10_5 != 2) = false := bne_eq_false_iff_eq.mpr c98
                              clear c98
                              by_cases c99 : 0 < (t182.length : Int)
                              ·rw [if_pos c99] at H
                               have c99b0 : decide (0 < (t182.length : Int)) = true := decide_eq_true c99
                               have c99b1 : decide (0 < t182.length) = true := decide_eq_true (by omega)
                               clear c99
                               by_cases c100 : (wrap64 ((wrap64 ((wrap64 ((wrap64 (x5_3 + (wrap64 (t179 * (ji59))))) + t181)) - (rd t182 (ji59)))) - (rd x4_3 (ji59)))) < (rd t182 0)
                               ·rw [if_pos c100] at H
                                have c100b0 : decide ((wrap64 ((wrap64 ((wrap64 ((wrap64 (x5_3 + (wrap64 (t179 * (ji59))))) + t181)) - (rd t182 (ji59)))) - (rd x4_3 (ji59)))) < (rd t182 0)) = true := decide_eq_true c100
                                clear c100
                                have H' := Aside0.mk H
                                clear H; have p208 : 0 ≤ (0 : Int) := (by omega); have q208 : 0 < (t182.length : Int) := of_decide_eq_true (by first | (with_reducible assumption) | assumption); obtain ⟨ad208, e208, hx208_0⟩ := Kd.at_int (Kd.R_reads' HO_11.out).2.2 0 p208 q208; obtain rfl : ad193 = ad208 := (by injection e208); have qi208 : (0 < t182.length) = True := eq_true (by omega); (try rw [show ((0 : Int)).toNat = 0 from rfl] at hx208_0); (try rw [Addr.add_zero'] at hx208_0); replace p208 := eq_true p208; replace q208 := eq_true q208
                                go_wp2
                                subst hji59; go_meet
                                case rel => exact ⟨_, (true), (by first | rfl | (simp; done) | (simp [*]; done)), H', ⟨by have := HK1.out; have := HJ1.out; have := HK3.out; have := HJ4.out; have := HK5.out; have := HJ27.out; have := HK7.out; first | omega | exact Nat.le_refl _⟩, ⟨by (with_reducible repeat (first | apply Kd.R_alloc | apply Kd.R_drewN | apply Kd.R_drew)); exact Kd.R_mono HO_4.out (fun _ hk => trivial)⟩, ⟨by repeat (first | (with_reducible first | exact HB.out | apply below_alloc | apply pw_below_drewN | apply below_drew1) | exact HB.out)⟩⟩
                               ·rw [if_neg c100] at H
                                have c100b0 : decide ((wrap64 ((wrap64 ((wrap64 ((wrap64 (x5_3 + (wrap64 (t179 * (ji59))))) + t181)) - (rd t182 (ji59)))) - (rd x4_3 (ji59)))) < (rd t182 0)) = false := decide_eq_false c100
                                clear c100
                                by_cases c101 : (wrap64 ((wrap64 ((wrap64 ((wrap64 (x5_3 + (wrap64 (t179 * (ji59))))) + t181)) - (rd t182 (ji59)))) - (rd x4_3 (ji59)))) > (wrap64 ((rd t182 0) + 1))
                                ·rw [if_pos c101] at H
                                 have c101b0 : decide ((wrap64 ((rd t182 0) + 1)) < (wrap64 ((wrap64 ((wrap64 ((wrap64 (x5_3 + (wrap64 (t179 * (ji59))))) + t181)) - (rd t182 (ji59)))) - (rd x4_3 (ji59))))) = true := decide_eq_true c101
                                 clear c101
                                 have H' := Aside0.mk H
                                 clear H; have p208 : 0 ≤ (0 : Int) := (by omega); have q208 : 0 < (t182.length : Int) := of_decide_eq_true (by first | (with_reducible assumption) | assumption); obtain ⟨ad208, e208, hx208_0⟩ := Kd.at_int (Kd.R_reads' HO_11.out).2.2 0 p208 q208; obtain rfl : ad193 = ad208 := (by injection e208); have qi208 : (0 < t182.length) = True := eq_true (by omega); (try rw [show ((0 : Int)).toNat = 0 from rfl] at hx208_0); (try rw [Addr.add_zero'] at hx208_0); replace p208 := eq_true p208; replace q208 := eq_true q208; have p209 : 0 ≤ (0 : Int) := (by omega); have q209 : 0 < (t182.length : Int) := of_decide_eq_true (by first | (with_reducible assumption) | assumption); obtain ⟨ad209, e209, hx209_0⟩ := Kd.at_int (Kd.R_reads' HO_11.out).2.2 0 p209 q209; obtain rfl : ad193 = ad209 := (by injection e209); have qi209 : (0 < t182.length) = True := eq_true (by omega); (try rw [show ((0 : Int)).toNat = 0 from rfl] at hx209_0); (try rw [Addr.add_zero'] at hx209_0); replace p209 := eq_true p209; replace q209 := eq_true q209
                                 go_wp2
                                 subst hji59; go_meet
                                 case rel => exact ⟨_, (true), (by first | rfl | (simp; done) | (simp [*]; done)), H', ⟨by have := HK1.out; have := HJ1.out; have := HK3.out; have := HJ4.out; have := HK5.out; have := HJ27.out; have := HK7.out; first | omega | exact Nat.le_refl _⟩, ⟨by (with_reducible repeat (first | apply Kd.R_alloc | apply Kd.R_drewN | apply Kd.R_drew)); exact Kd.R_mono HO_4.out (fun _ hk => trivial)⟩, ⟨by repeat (first | (with_reducible first | exact HB.out | apply below_alloc | apply pw_below_drewN | apply below_drew1) | exact HB.out)⟩⟩
                                ·rw [if_neg c101] at H
                                 have c101b0 : decide ((wrap64 ((rd t182 0) + 1)) < (wrap64 ((wrap64 ((wrap64 ((wrap64 (x5_3 + (wrap64 (t179 * (ji59))))) + t181)) - (rd t182 (ji59)))) - (rd x4_3 (ji59))))) = false := decide_eq_false c101
                                 clear c101
                                 by_cases c102 : x10_5 = 3
                                 ·rw [if_pos c102] at H
                                  have c102b0 : (x10_5 == 3) = true := beq_iff_eq.mpr c102
                                  have c102b1 : (x10_5 != 3) = false := bne_eq_false_iff_eq.mpr c102
                                  clear c102
                                  by_cases c103 : (x4_3.length : Int) > 1
                                  ·rw [if_pos c103] at H
                                   have c103b0 : decide (1 < (x4_3.length : Int)) = true := decide_eq_true c103
                                   have c103b1 : decide (1 < x4_3.length) = true := decide_eq_true (by omega)
                                   clear c103
                                   by_cases c104 : (rd t182 0) = 0
                                   ·rw [if_pos c104] at H
                                    have c104b0 : ((rd t182 0) == 0) = true := beq_iff_eq.mpr c104
                                    have c104b1 : ((rd t182 0) != 0) = false := bne_eq_false_iff_eq.mpr c104
                                    clear c104
                                    have H' := Aside0.mk H
                                    clear H; have p208 : 0 ≤ (0 : Int) := (by omega); have q208 : 0 < (t182.length : Int) := of_decide_eq_true (by first | (with_reducible assumption) | assumption); obtain ⟨ad208, e208, hx208_0⟩ := Kd.at_int (Kd.R_reads' HO_11.out).2.2 0 p208 q208; obtain rfl : ad193 = ad208 := (by injection e208); have qi208 : (0 < t182.length) = True := eq_true (by omega); (try rw [show ((0 : Int)).toNat = 0 from rfl] at hx208_0); (try rw [Addr.add_zero'] at hx208_0); replace p208 := eq_true p208; replace q208 := eq_true q208; have p209 : 0 ≤ (0 : Int) := (by omega); have q209 : 0 < (t182.length : Int) := of_decide_eq_true (by first | (with_reducible assumption) | assumption); obtain ⟨ad209, e209, hx209_0⟩ := Kd.at_int (Kd.R_reads' HO_11.out).2.2 0 p209 q209; obtain rfl : ad193 = ad209 := (by injection e209); have qi209 : (0 < t182.length) = True := eq_true (by omega); (try rw [show ((0 : Int)).toNat = 0 from rfl] at hx209_0); (try rw [Addr.add_zero'] at hx209_0); replace p209 := eq_true p209; replace q209 := eq_true q209; have p210 : 0 ≤ (0 : Int) := (by omega); have q210 : 0 < (t182.length : Int) := of_decide_eq_true (by first | (with_reducible assumption) | assumption); obtain ⟨ad210, e210, hx210_0⟩ := Kd.at_int (Kd.R_reads' HO_11.out).2.2 0 p210 q210; obtain rfl : ad193 = ad210 := (by injection e210); have qi210 : (0 < t182.length) = True := eq_true (by omega); (try rw [show ((0 : Int)).toNat = 0 from rfl] at hx210_0); (try rw [Addr.add_zero'] at hx210_0); replace p210 := eq_true p210; replace q210 := eq_true q210
                                    go_wp2
                                    subst hji59; go_meet
                                    case rel => exact ⟨_, (decide ((wrap64 ((wrap64 ((wrap64 ((wrap64 (x5_3 + (wrap64 (t179 * (wrap64 ((x4_3.length : Int) - 1)))))) + t181)) - (rd t182 (wrap64 ((x4_3.length : Int) - 1))))) - (rd x4_3 (wrap64 ((x4_3.length : Int) - 1))))) ≥ (wrap64 ((x4_3.length : Int) - 1)))), (by first | rfl | (simp; done) | (simp only [← hji59] <;> (first | rfl | (rw [tdiv_mx]; done) | simp)) | (simp [*]; done)), H', ⟨by have := HK1.out; have := HJ1.out; have := HK3.out; have := HJ4.out; have := HK5.out; have := HJ27.out; have := HK7.out; first | omega | exact Nat.le_refl _⟩, ⟨by (with_reducible repeat (first | apply Kd.R_alloc | apply Kd.R_drewN | apply Kd.R_drew)); exact Kd.R_mono HO_4.out (fun _ hk => trivial)⟩, ⟨by repeat (first | (with_reducible first | exact HB.out | apply below_alloc | apply pw_below_drewN | apply below_drew1) | exact HB.out)⟩⟩
                                   ·rw [if_neg c104] at H
                                    have c104b0 : ((rd t182 0) == 0) = false := beq_eq_false_iff_ne.mpr c104
                                    have c104b1 : ((rd t182 0) != 0) = true := bne_iff_ne.mpr c104
                                    have H' := Aside0.mk H
                                    clear H; have p208 : 0 ≤ (0 : Int) := (by omega); have q208 : 0 < (t182.length : Int) := of_decide_eq_true (by first | (with_reducible assumption) | assumption); obtain ⟨ad208, e208, hx208_0⟩ := Kd.at_int (Kd.R_reads' HO_11.out).2.2 0 p208 q208; obtain rfl : ad193 = ad208 := (by injection e208); have qi208 : (0 < t182.length) = True := eq_true (by omega); (try rw [show ((0 : Int)).toNat = 0 from rfl] at hx208_0); (try rw [Addr.add_zero'] at hx208_0); replace p208 := eq_true p208; replace q208 := eq_true q208; have p209 : 0 ≤ (0 : Int) := (by omega); have q209 : 0 < (t182.length : Int) := of_decide_eq_true (by first | (with_reducible assumption) | assumption); obtain ⟨ad209, e209, hx209_0⟩ := Kd.at_int (Kd.R_reads' HO_11.out).2.2 0 p209 q209; obtain rfl : ad193 = ad209 := (by injection e209); have qi209 : (0 < t182.length) = True := eq_true (by omega); (try rw [show ((0 : Int)).toNat = 0 from rfl] at hx209_0); (try rw [Addr.add_zero'] at hx209_0); replace p209 := eq_true p209; replace q209 := eq_true q209; have p210 : 0 ≤ (0 : Int) := (by omega); have q210 : 0 < (t182.length : Int) := of_decide_eq_true (by first | (with_reducible assumption) | assumption); obtain ⟨ad210, e210, hx210_0⟩ := Kd.at_int (Kd.R_reads' HO_11.out).2.2 0 p210 q210; obtain rfl : ad193 = ad210 := (by injection e210); have qi210 : (0 < t182.length) = True := eq_true (by omega); (try rw [show ((0 : Int)).toNat = 0 from rfl] at hx210_0); (try rw [Addr.add_zero'] at hx210_0); replace p210 := eq_true p210; replace q210 := eq_true q210
                                    go_wp2
                                    subst hji59; go_meet
                                    case rel => exact ⟨_, (true), (by first | rfl | (simp; done) | (simp [*]; done)), H', ⟨by have := HK1.out; have := HJ1.out; have := HK3.out; have := HJ4.out; have := HK5.out; have := HJ27.out; have := HK7.out; first | omega | exact Nat.le_refl _⟩, ⟨by (with_reducible repeat (first | apply Kd.R_alloc | apply Kd.R_drewN | apply Kd.R_drew)); exact Kd.R_mono HO_4.out (fun _ hk => trivial)⟩, ⟨by repeat (first | (with_reducible first | exact HB.out | apply below_alloc | apply pw_below_drewN | apply below_drew1) | exact HB.out)⟩⟩
                                  ·rw [if_neg c103] at H
                                   have c103b0 : decide (1 < (x4_3.length : Int)) = false := decide_eq_false c103
                                   have c103b1 : decide (1 < x4_3.length) = false := decide_eq_false (by omega)
                                   clear c103
                                   have H' := Aside0.mk H
                                   clear H; have p208 : 0 ≤ (0 : Int) := (by omega); have q208 : 0 < (t182.length : Int) := of_decide_eq_true (by first | (with_reducible assumption) | assumption); obtain ⟨ad208, e208, hx208_0⟩ := Kd.at_int (Kd.R_reads' HO_11.out).2.2 0 p208 q208; obtain rfl : ad193 = ad208 := (by injection e208); have qi208 : (0 < t182.length) = True := eq_true (by omega); (try rw [show ((0 : Int)).toNat = 0 from rfl] at hx208_0); (try rw [Addr.add_zero'] at hx208_0); replace p208 := eq_true p208; replace q208 := eq_true q208; have p209 : 0 ≤ (0 : Int) := (by omega); have q209 : 0 < (t182.length : Int) := of_decide_eq_true (by first | (with_reducible assumption) | assumption); obtain ⟨ad209, e209, hx209_0⟩ := Kd.at_int (Kd.R_reads' HO_11.out).2.2 0 p209 q209; obtain rfl : ad193 = ad209 := (by injection e209); have qi209 : (0 < t182.length) = True := eq_true (by omega); (try rw [show ((0 : Int)).toNat = 0 from rfl] at hx209_0); (try rw [Addr.add_zero'] at hx209_0); replace p209 := eq_true p209; replace q209 := eq_true q209
                                   go_wp2
                                   subst hji59; go_meet
                                   case rel => exact ⟨_, (false), (by first | rfl | (simp; done) | (simp [*]; done)), H', ⟨by have := HK1.out; have := HJ1.out; have := HK3.out; have := HJ4.out; have := HK5.out; have := HJ27.out; have := HK7.out; first | omega | exact Nat.le_refl _⟩, ⟨by (with_reducible repeat (first | apply Kd.R_alloc | apply Kd.R_drewN | apply Kd.R_drew)); exact Kd.R_mono HO_4.out (fun _ hk => trivial)⟩, ⟨by repeat (first | (with_reducible first | exact HB.out | apply below_alloc | apply pw_below_drewN | apply below_drew1) | exact HB.out)⟩⟩
                                 ·rw [if_neg c102] at H
                                  have c102b0 : (x10_5 == 3) = false := beq_eq_false_iff_ne.mpr c102
                                  have c102b1 : (x10_5 != 3) = true := bne_iff_ne.mpr c102
                                  have H' := Aside0.mk H
                                  clear H; have p208 : 0 ≤ (0 : Int) := (by omega); have q208 : 0 < (t182.length : Int) := of_decide_eq_true (by first | (with_reducible assumption) | assumption); obtain ⟨ad208, e208, hx208_0⟩ := Kd.at_int (Kd.R_reads' HO_11.out).2.2 0 p208 q208; obtain rfl : ad193 = ad208 := (by injection e208); have qi208 : (0 < t182.length) = True := eq_true (by omega); (try rw [show ((0 : Int)).toNat = 0 from rfl] at hx208_0); (try rw [Addr.add_zero'] at hx208_0); replace p208 := eq_true p208; replace q208 := eq_true q208; have p209 : 0 ≤ (0 : Int) := (by omega); have q209 : 0 < (t182.length : Int) := of_decide_eq_true (by first | (with_reducible assumption) | assumption); obtain ⟨ad209, e209, hx209_0⟩ := Kd.at_int (Kd.R_reads' HO_11.out).2.2 0 p209 q209; obtain rfl : ad193 = ad209 := (by injection e209); have qi209 : (0 < t182.length) = True := eq_true (by omega); (try rw [show ((0 : Int)).toNat = 0 from rfl] at hx209_0); (try rw [Addr.add_zero'] at hx209_0); replace p209 := eq_true p209; replace q209 := eq_true q209
                                  go_wp2
                                  subst hji59; go_meet
                                  case rel => exact ⟨_, (false), (by first | rfl | (simp; done) | (simp [*]; done)), H', ⟨by have := HK1.out; have := HJ1.out; have := HK3.out; have := HJ4.out; have := HK5.out; have := HJ27.out; have := HK7.out; first | omega | exact Nat.le_refl _⟩, ⟨by (with_reducible repeat (first | apply Kd.R_alloc | apply Kd.R_drewN | apply Kd.R_drew)); exact Kd.R_mono HO_4.out (fun _ hk => trivial)⟩, ⟨by repeat (first | (with_reducible first | exact HB.out | apply below_alloc | apply pw_below_drewN | apply below_drew1) | exact HB.out)⟩⟩
                              ·rw [if_neg c99] at H
                               exact absurd H (by simp)
                             ·rw [if_neg c98] at H
                              have c98b0 : (x10_5 == 2) = false := beq_eq_false_iff_ne.mpr c98
                              have c98b1 : (x10_5 != 2) = true := bne_iff_ne.mpr c98
                              by_cases c105 : x10_5 = 3
                              ·rw [if_pos c105] at H
                               have c105b0 : (x10_5 == 3) = true := beq_iff_eq.mpr c105
                               have c105b1 : (x10_5 != 3) = false := bne_eq_false_iff_eq.mpr c105
                               clear c105
                               by_cases c106 : (x4_3.length : Int) > 1
                               ·rw [if_pos c106] at H
                                have c106b0 : decide (1 < (x4_3.length : Int)) = true := decide_eq_true c106
                                have c106b1 : decide (1 < x4_3.length) = true := decide_eq_true (by omega)
                                clear c106
                                by_cases c107 : 0 < (t182.length : Int)
                                ·rw [if_pos c107] at H
                                 have c107b0 : decide (0 < (t182.length : Int)) = true := decide_eq_true c107
                                 have c107b1 : decide (0 < t182.length) = true := decide_eq_true (by omega)
                                 clear c107
                                 by_cases c108 : (rd t182 0) = 0
                                 ·rw [if_pos c108] at H
                                  have c108b0 : ((rd t182 0) == 0) = true := beq_iff_eq.mpr c108
                                  have c108b1 : ((rd t182 0) != 0) = false := bne_eq_false_iff_eq.mpr c108
                                  clear c108
                                  have H' := Aside0.mk H
                                  clear H; have p211 : 0 ≤ (0 : Int) := (by omega); have q211 : 0 < (t182.length : Int) := of_decide_eq_true (by first | (with_reducible assumption) | assumption); obtain ⟨ad211, e211, hx211_0⟩ := Kd.at_int (Kd.R_reads' HO_11.out).2.2 0 p211 q211; obtain rfl : ad193 = ad211 := (by injection e211); have qi211 : (0 < t182.length) = True := eq_true (by omega); (try rw [show ((0 : Int)).toNat = 0 from rfl] at hx211_0); (try rw [Addr.add_zero'] at hx211_0); replace p211 := eq_true p211; replace q211 := eq_true q211
                                  go_wp2
                                  subst hji59; go_meet
                                  case rel => exact ⟨_, (decide ((wrap64 ((wrap64 ((wrap64 ((wrap64 (x5_3 + (wrap64 (t179 * (wrap64 ((x4_3.length : Int) - 1)))))) + t181)) - (rd t182 (wrap64 ((x4_3.length : Int) - 1))))) - (rd x4_3 (wrap64 ((x4_3.length : Int) - 1))))) ≥ (wrap64 ((x4_3.length : Int) - 1)))), (by first | rfl | (simp; done) | (simp only [← hji59] <;> (first | rfl | (rw [tdiv_mx]; done) | simp)) | (simp [*]; done)), H', ⟨by have := HK1.out; have := HJ1.out; have := HK3.out; have := HJ4.out; have := HK5.out; have := HJ27.out; have := HK7.out; first | omega | exact Nat.le_refl _⟩, ⟨by (with_reducible repeat (first | apply Kd.R_alloc | apply Kd.R_drewN | apply Kd.R_drew)); exact Kd.R_mono HO_4.out (fun _ hk => trivial)⟩, ⟨by repeat (first | (with_reducible first | exact HB.out | apply below_alloc | apply pw_below_drewN | apply below_drew1) | exact HB.out)⟩⟩
                                 ·rw [if_neg c108] at H
                                  have c108b0 : ((rd t182 0) == 0) = false := beq_eq_false_iff_ne.mpr c108
                                  have c108b1 : ((rd t182 0) != 0) = true := bne_iff_ne.mpr c108
                                  have H' := Aside0.mk H
                                  clear H; have p211 : 0 ≤ (0 : Int) := (by omega); have q211 : 0 < (t182.length : Int) := of_decide_eq_true (by first | (with_reducible assumption) | assumption); obtain ⟨ad211, e211, hx211_0⟩ := Kd.at_int (Kd.R_reads' HO_11.out).2.2 0 p211 q211; obtain rfl : ad193 = ad211 := (by injection e211); have qi211 : (0 < t182.length) = True := eq_true (by omega); (try rw [show ((0 : Int)).toNat = 0 from rfl] at hx211_0); (try rw [Addr.add_zero'] at hx211_0); replace p211 := eq_true p211; replace q211 := eq_true q211
                                  go_wp2
                                  subst hji59; go_meet
                                  case rel => exact ⟨_, (true), (by first | rfl | (simp; done) | (simp [*]; done)), H', ⟨by have := HK1.out; have := HJ1.out; have := HK3.out; have := HJ4.out; have := HK5.out; have := HJ27.out; have := HK7.out; first | omega | exact Nat.le_refl _⟩, ⟨by (with_reducible repeat (first | apply Kd.R_alloc | apply Kd.R_drewN | apply Kd.R_drew)); exact Kd.R_mono HO_4.out (fun _ hk => trivial)⟩, ⟨by repeat (first | (with_reducible first | exact HB.out | apply below_alloc | apply pw_below_drewN | apply below_drew1) | exact HB.out)⟩⟩
                                ·rw [if_neg c107] at H
                                 exact absurd H (by simp)
                               ·rw [if_neg c106] at H
                                have c106b0 : decide (1 < (x4_3.length : Int)) = false := decide_eq_false c106
                                have c106b1 : decide (1 < x4_3.length) = false := decide_eq_false (by omega)
                                clear c106
                                have H' := Aside0.mk H
                                clear H
                                go_wp2
                                subst hji59; go_meet
                                case rel => exact ⟨_, (false), (by first | rfl | (simp; done) | (simp [*]; done)), H', ⟨by have := HK1.out; have := HJ1.out; have := HK3.out; have := HJ4.out; have := HK5.out; have := HJ27.out; have := HK7.out; first | omega | exact Nat.le_refl _⟩, ⟨by (with_reducible repeat (first | apply Kd.R_alloc | apply Kd.R_drewN | apply Kd.R_drew)); exact Kd.R_mono HO_4.out (fun _ hk => trivial)⟩, ⟨by repeat (first | (with_reducible first | exact HB.out | apply below_alloc | apply pw_below_drewN | apply below_drew1) | exact HB.out)⟩⟩
                              ·rw [if_neg c105] at H
                               have c105b0 : (x10_5 == 3) = false := beq_eq_false_iff_ne.mpr c105
                               have c105b1 : (x10_5 != 3) = true := bne_iff_ne.mpr c105
                               have H' := Aside0.mk H
                               clear H
                               go_wp2
                               subst hji59; go_meet
                               case rel => exact ⟨_, (false), (by first | rfl | (simp; done) | (simp [*]; done)), H', ⟨by have := HK1.out; have := HJ1.out; have := HK3.out; have := HJ4.out; have := HK5.out; have := HJ27.out; have := HK7.out; first | omega | exact Nat.le_refl _⟩, ⟨by (with_reducible repeat (first | apply Kd.R_alloc | apply Kd.R_drewN | apply Kd.R_drew)); exact Kd.R_mono HO_4.out (fun _ hk => trivial)⟩, ⟨by repeat (first | (with_reducible first | exact HB.out | apply below_alloc | apply pw_below_drewN | apply below_drew1) | exact HB.out)⟩⟩
                          case rest => as_aux_lemma =>
                           clear HC63
                           try clear c1
                           try clear p1
                           try clear q1
                           try clear hx1
                           try clear qi1
                           try clear p2
                           try clear q2
                           try clear hx2
                           try clear qi2
                           try clear c6
                           try clear p6
                           try clear c8
                           try clear c9
                           try clear c10
                           try clear p19
                           try clear q19
                           try clear hx19
                           try clear qi19
                           try clear p20
                           try clear q20
                           try clear hx20
                           try clear qi20
                           try clear p21
                           try clear q21
                           try clear hx21
                           try clear qi21
                           try clear p64
                           try clear c66
                           try clear c66b0
                           try clear c66b1
                           try clear c67
                           try clear c68
                           try clear c68b0
                           try clear c68b1
                           try clear c85
                           try clear c85b0
                           try clear c85b1
                           try clear c86
                           try clear c86b0
                           try clear c86b1
                           try clear c87
                           try clear c87b0
                           try clear c87b1
                           try clear c88
                           try clear c88b0
                           try clear c88b1
                           try clear c89
                           try clear c89b0
                           try clear c90
                           try clear c90b0
                           try clear c91
                           try clear c91b0
                           try clear c91b1
                           try clear c92
                           try clear c92b0
                           try clear c92b1
                           try clear c93
                           try clear c93b0
                           try clear c93b1
                           try clear c94
                           try clear c94b0
                           try clear c94b1
                           try clear c95
                           try clear c95b0
                           try clear c95b1
                           try clear c96
                           try clear c96b0
                           try clear c96b1
                           try clear c97
                           try clear c97b0
                           try clear c97b1
                           try clear c98
                           try clear c98b0
                           try clear c98b1
                           try clear c99
                           try clear c99b0
                           try clear c99b1
                           try clear c100
                           try clear c100b0
                           try clear c101
                           try clear c101b0
                           try clear c102
                           try clear c102b0
                           try clear c102b1
                           try clear c103
                           try clear c103b0
                           try clear c103b1
                           try clear c104
                           try clear c104b0
                           try clear c104b1
                           try clear c105
                           try clear c105b0
                           try clear c105b1
                           try clear c106
                           try clear c106b0
                           try clear c106b1
                           try clear c107
                           try clear c107b0
                           try clear c107b1
                           try clear c108
                           try clear c108b0
                           try clear c108b1
                           try clear hx195_0
                           try clear hx204_0
                           try clear hx205_0
                           try clear hx206_0
                           try clear hx207_0
                           try clear hx208_0
                           try clear hx209_0
                           try clear hx210_0
                           try clear hx211_0
                           try clear p195
                           try clear p204
                           try clear p205
                           try clear p206
                           try clear p207
                           try clear p208
                           try clear p209
                           try clear p210
                           try clear p211
                           try clear q195
                           try clear q204
                           try clear q205
                           try clear q206
                           try clear q207
                           try clear q208
                           try clear q209
                           try clear q210
                           try clear q211
                           obtain ⟨kq, x216_62, rfl, HA, HJ62, HO_4, HB⟩ := hcut
                           cases kq with
                           | zero => exact absurd HA.out (by simp [pLaws.j7])
                           | succ kj62 =>
                            have H := HA.out
                            clear HA
                            simp only [pLaws.j7] at H
                            by_cases c109 : x216_62 = true
                            ·subst c109
                             have H1 : (some false) = some r := by rw [if_pos rfl] at H; exact H
                             clear H; have H := H1; clear H1
                             obtain rfl := Option.some.inj H
                             go_wp2
                             go_ret
                             exact ⟨by first | rfl | (simp [errW_none, errW_some] <;> rfl) | (simp only [← hji59]; first | rfl | (simp [errW_none, errW_some] <;> rfl)) | (simp [*, errW_none, errW_some] <;> rfl), by repeat (first | (with_reducible first | exact HB.out | apply below_alloc | apply pw_below_drewN | apply below_drew1) | exact HB.out)⟩
                            ·replace c109 := Bool.eq_false_iff.mpr c109
                             subst c109
                             have H1 : (pLaws.l2 kj62 l0 x3_1 x4_3 t179 (x4_3.length : Int) (wrap64 ((wrap64 (x5_3 + (wrap64 (t179 * (ji59))))) + t181)) (wrap64 (x10_5 + 1))) = some r := by rw [if_neg (show ¬ (false = true) by decide)] at H; exact H
                             clear H; have H := H1; clear H1
                             have H' := Aside0.mk H
                             clear H
                             go_wp2
                             subst hji59; go_roundg kj62
                             case measure => have := HK1.out; have := HJ1.out; have := HK3.out; have := HJ4.out; have := HK5.out; have := HJ27.out; have := HK7.out; have := HJ62.out; omega
                             case rel => exact ⟨(wrap64 (x10_5 + 1)), (by first | rfl | (simp; done) | (simp [*]; done)), H', ⟨by have := HK1.out; have := HJ1.out; have := HK3.out; have := HJ4.out; have := HK5.out; have := HJ27.out; have := HK7.out; have := HJ62.out; omega⟩, ⟨by (with_reducible repeat (first | apply Kd.R_alloc | apply Kd.R_drewN | apply Kd.R_drew)); exact HO_4.out⟩, ⟨by repeat (first | (with_reducible first | exact HB.out | apply below_alloc | apply pw_below_drewN | apply below_drew1) | exact HB.out)⟩⟩
                         ·rw [if_neg c62] at H
                          exact absurd H (by simp)
                        ·rw [if_neg c61] at H
                         exact absurd H (by simp)
                       ·rw [if_neg c60] at H
                        exact absurd H (by simp)
                ·as_aux_lemma =>
                 rw [if_neg c26] at H
                 have c26b0 : decide (x10_5 ≤ 4) = false := decide_eq_false c26
                 clear c26
                 have H' := Aside0.mk H
                 clear H
                 go_wp2
                 go_loopg [15] k5 (fun kq v15 w' => ∃ (x15_6 : Int), v15 = .int .i64 x15_6 ∧ Aside0 (pLaws.l4 kq l0 x3_1 x4_3 (wrap64 ((wrap64 (x5_3 + (wrap64 (t179 * (wrap64 ((x4_3.length : Int) - 1)))))) + t181)) x15_6 = some r) ∧ Aside0 (kq ≤ k5) ∧ Aside0 (Kd.R (Kd.int .i64) 3 w' w.heap.size (fun _ => True) (.slice Ao25 x4_3.length co25) x4_3) ∧ Aside0 (Below w.heap.size w w'))
                 case atStart => exact ⟨(0), (by first | rfl | (simp; done) | (simp [*]; done)), H', ⟨Nat.le_refl _⟩, ⟨by (with_reducible repeat (first | apply Kd.R_alloc | apply Kd.R_drewN | apply Kd.R_drew)); exact HO_4.out⟩, ⟨by repeat (first | (with_reducible first | exact HB.out | apply below_alloc | apply pw_below_drewN | apply below_drew1) | exact HB.out)⟩⟩
                 case round => as_aux_lemma =>
                  clear H'
                  try clear c1
                  try clear p1
                  try clear q1
                  try clear hx1
                  try clear qi1
                  try clear c2
                  try clear p2
                  try clear q2
                  try clear hx2
                  try clear qi2
                  try clear c6
                  try clear p6
                  try clear c8
                  try clear c9
                  try clear c10
                  try clear p19
                  try clear q19
                  try clear hx19
                  try clear qi19
                  try clear p20
                  try clear q20
                  try clear hx20
                  try clear qi20
                  try clear p21
                  try clear q21
                  try clear hx21
                  try clear qi21
                  try clear c26
                  try clear c26b0
                  try clear c60
                  try clear c61
                  try clear c62
                  try clear p64
                  try clear c66
                  try clear c66b0
                  try clear c66b1
                  try clear c67
                  try clear c68
                  try clear c68b0
                  try clear c68b1
                  try clear c85
                  try clear c85b0
                  try clear c85b1
                  try clear c86
                  try clear c86b0
                  try clear c86b1
                  try clear c87
                  try clear c87b0
                  try clear c87b1
                  try clear c88
                  try clear c88b0
                  try clear c88b1
                  try clear c89
                  try clear c89b0
                  try clear c90
                  try clear c90b0
                  try clear c91
                  try clear c91b0
                  try clear c91b1
                  try clear c92
                  try clear c92b0
                  try clear c92b1
                  try clear c93
                  try clear c93b0
                  try clear c93b1
                  try clear c94
                  try clear c94b0
                  try clear c94b1
                  try clear c95
                  try clear c95b0
                  try clear c95b1
                  try clear c96
                  try clear c96b0
                  try clear c96b1
                  try clear c97
                  try clear c97b0
                  try clear c97b1
                  try clear c98
                  try clear c98b0
                  try clear c98b1
                  try clear c99
                  try clear c99b0
                  try clear c99b1
                  try clear c100
                  try clear c100b0
                  try clear c101
                  try clear c101b0
                  try clear c102
                  try clear c102b0
                  try clear c102b1
                  try clear c103
                  try clear c103b0
                  try clear c103b1
                  try clear c104
                  try clear c104b0
                  try clear c104b1
                  try clear c105
                  try clear c105b0
                  try clear c105b1
                  try clear c106
                  try clear c106b0
                  try clear c106b1
                  try clear c107
                  try clear c107b0
                  try clear c107b1
                  try clear c108
                  try clear c108b0
                  try clear c108b1
                  try clear c109
                  try clear hx195_0
                  try clear hx204_0
                  try clear hx205_0
                  try clear hx206_0
                  try clear hx207_0
                  try clear hx208_0
                  try clear hx209_0
                  try clear hx210_0
                  try clear hx211_0
                  try clear p1
                  try clear p19
                  try clear p195
                  try clear p2
                  try clear p20
                  try clear p204
                  try clear p205
                  try clear p206
                  try clear p207
                  try clear p208
                  try clear p209
                  try clear p21
                  try clear p210
                  try clear p211
                  try clear p6
                  try clear p64
                  try clear q1
                  try clear q19
                  try clear q195
                  try clear q2
                  try clear q20
                  try clear q204
                  try clear q205
                  try clear q206
                  try clear q207
                  try clear q208
                  try clear q209
                  try clear q21
                  try clear q210
                  try clear q211
                  obtain ⟨x15_6, rfl, HA, HK6, HO_4, HB⟩ := hrel
                  cases gk with
                  | zero => exact absurd HA.out (by simp [pLaws.l4])
                  | succ k6 =>
                   have H := HA.out
                   clear HA
                   simp only [pLaws.l4] at H
                   by_cases c110 : x15_6 ≤ 3
                   ·as_aux_lemma =>
                    rw [if_pos c110] at H
                    have c110b0 : decide (x15_6 ≤ 3) = true := decide_eq_true c110
                    clear c110
                    by_cases c111 : 0 < (x4_3.length : Int)
                    ·as_aux_lemma =>
                     rw [if_pos c111] at H
                     have c111b0 : decide (0 < (x4_3.length : Int)) = true := decide_eq_true c111
                     have c111b1 : decide (0 < x4_3.length) = true := decide_eq_true (by omega)
                     clear c111
                     replace H := Option.bind_eq_some_iff.mp H
                     obtain ⟨⟨t213, t214, t215⟩, A1120, H⟩ := H
                     replace H : ((arraslaw21_num.f t215).bind fun t217 => (if t217 = 0 then (if t213 < 0 then (pLaws.j9 k6 l0 x3_1 x4_3 (wrap64 ((wrap64 (x5_3 + (wrap64 (t179 * (wrap64 ((x4_3.length : Int) - 1)))))) + t181)) x15_6 true) else (if t214 < 0 then (pLaws.j9 k6 l0 x3_1 x4_3 (wrap64 ((wrap64 (x5_3 + (wrap64 (t179 * (wrap64 ((x4_3.length : Int) - 1)))))) + t181)) x15_6 true) else (pLaws.j9 k6 l0 x3_1 x4_3 (wrap64 ((wrap64 (x5_3 + (wrap64 (t179 * (wrap64 ((x4_3.length : Int) - 1)))))) + t181)) x15_6 (decide ((wrap64 (t213 + t214)) > (wrap64 ((wrap64 (x5_3 + (wrap64 (t179 * (wrap64 ((x4_3.length : Int) - 1)))))) + t181))))))) else (pLaws.j9 k6 l0 x3_1 x4_3 (wrap64 ((wrap64 (x5_3 + (wrap64 (t179 * (wrap64 ((x4_3.length : Int) - 1)))))) + t181)) x15_6 true))) = some r := H
                     have A112 := Aside0.mk A1120; clear A1120; have HC113 := Aside0.mk H; clear H; have p212 : 0 ≤ (0 : Int) := (by omega); have q212 : 0 < (x4_3.length : Int) := of_decide_eq_true (by first | (with_reducible assumption) | assumption); obtain ⟨ad212, e212, hx212_0⟩ := Kd.at_int (Kd.R_reads' HO_4.out).2.2 0 p212 q212; cases e212; have qi212 : (0 < x4_3.length) = True := eq_true (by omega); (try rw [show ((0 : Int)).toNat = 0 from rfl] at hx212_0); (try rw [Addr.add_zero'] at hx212_0); replace p212 := eq_true p212; replace q212 := eq_true q212
                     go_upto_region 34 with (first | ((with_reducible refine gate_callee (f := 27) rfl ?_); refine goesL_ (some 227) rfl rfl Try.func27 (by kernel_rfl) rfl #[.int .i64 (rd x4_3 0), .int .i64 (wrap64 ((wrap64 (x5_3 + (wrap64 (t179 * (wrap64 ((x4_3.length : Int) - 1)))))) + t181)), .int .i64 x15_6] rfl (by (try simp only [List.map_toArray, List.map_cons, List.map_nil]); first | done | rfl | (simp only [List.length_drop, List.length_take]; rfl)) ?_; (with_reducible refine (place_Align.calls (rd x4_3 0) (wrap64 ((wrap64 (x5_3 + (wrap64 (t179 * (wrap64 ((x4_3.length : Int) - 1)))))) + t181)) x15_6 t213 t214 t215 _ A112.out).mono ?_); rintro e w114 ⟨rfl, hb⟩; refine ⟨_, rfl, ?_⟩; have n0_ := Aside0.mk (Kd.R_below (by (with_reducible repeat (first | apply Kd.R_alloc | apply Kd.R_drewN | apply Kd.R_drew)); exact HO_4.out) hb); have n1_ := Aside0.mk (below_step (by repeat (first | (with_reducible first | exact HB.out | apply below_alloc | apply pw_below_drewN | apply below_drew1) | exact HB.out)) hb); clear HO_4; clear HB; have HO_4 := n0_; have HB := n1_; clear n0_ n1_; (try clear hb); (try clear hb2); (try clear hk); (try clear hi)) | ((with_reducible refine gate_dst (N := 16) rfl ?_); (try (refine gate_guard (by rfl) ?_; dsimp only)); refine box_event ?hg (N := 16) ?hd (cs := #[.int .i64 0, .int .i64 0]) (t := 42) ?hr ?_; (case hd => rfl); (case hg => rfl); (case hr => first | (go_simp; done) | (go_simp; rfl)); intro gb216 hg w115 hbox hb; have n0_ := Aside0.mk (Kd.R_below (by (with_reducible repeat (first | apply Kd.R_alloc | apply Kd.R_drewN | apply Kd.R_drew)); exact HO_4.out) hb); have n1_ := Aside0.mk (below_step (by repeat (first | (with_reducible first | exact HB.out | apply below_alloc | apply pw_below_drewN | apply below_drew1) | exact HB.out)) hb); have n2_ := Aside0.mk (hbox); have n3_ := Aside0.mk ((by rw [hg]; exact (below_size (by repeat (first | (with_reducible first | exact HB.out | apply below_alloc | apply pw_below_drewN | apply below_drew1) | exact HB.out))) : w.heap.size ≤ gb216)); have n4_ := Aside0.mk ((by rw [hg]; exact (below_size (by repeat (first | (with_reducible first | exact HB.out | apply below_alloc | apply pw_below_drewN | apply below_drew1) | exact HB.out))) : w.heap.size ≤ gb216)); clear HO_4; clear HB; have HO_4 := n0_; have HB := n1_; have BK216 := n2_; have GW216 := n3_; have GE216 := n4_; clear n0_ n1_ n2_ n3_ n4_; clear hb hbox hg; have hcz116_0 : w115.cell? ⟨gb216, 0, none⟩ = some (.int .i64 0) := (blk_cell BK216.out 0).trans rfl; have hcz116_1 : w115.cell? ⟨gb216, 1, none⟩ = some (.int .i64 0) := (blk_cell BK216.out 1).trans rfl; have hfz116_0 := blk_frozen BK216.out 0; have hfz116_1 := blk_frozen BK216.out 1))
                     (try simp only [Act.put, List.setIfInBounds_toArray, List.set_cons_zero, List.set_cons_succ])
                     go_cut [251] (fun v251 wc => ∃ (kq : Nat) (x251_112 : Bool), v251 = .bool x251_112 ∧ Aside0 (pLaws.j9 kq l0 x3_1 x4_3 (wrap64 ((wrap64 (x5_3 + (wrap64 (t179 * (wrap64 ((x4_3.length : Int) - 1)))))) + t181)) x15_6 x251_112 = some r) ∧ Aside0 (kq ≤ k6) ∧ Aside0 (Kd.R (Kd.int .i64) 3 wc w.heap.size (fun _ => True) (.slice (some ad212) x4_3.length co25) x4_3) ∧ Aside0 (wc.heap[gb216]? = some (.cells #[.int .i64 t213, .int .i64 t214] 42 (0, 0))) ∧ Aside0 (Below w.heap.size w wc))
                     case first => as_aux_lemma =>
                      have H := HC113.out
                      clear HC113
                      replace H := Option.bind_eq_some_iff.mp H
                      obtain ⟨t217, A1170, H⟩ := H
                      replace H : (if t217 = 0 then (if t213 < 0 then (pLaws.j9 k6 l0 x3_1 x4_3 (wrap64 ((wrap64 (x5_3 + (wrap64 (t179 * (wrap64 ((x4_3.length : Int) - 1)))))) + t181)) x15_6 true) else (if t214 < 0 then (pLaws.j9 k6 l0 x3_1 x4_3 (wrap64 ((wrap64 (x5_3 + (wrap64 (t179 * (wrap64 ((x4_3.length : Int) - 1)))))) + t181)) x15_6 true) else (pLaws.j9 k6 l0 x3_1 x4_3 (wrap64 ((wrap64 (x5_3 + (wrap64 (t179 * (wrap64 ((x4_3.length : Int) - 1)))))) + t181)) x15_6 (decide ((wrap64 (t213 + t214)) > (wrap64 ((wrap64 (x5_3 + (wrap64 (t179 * (wrap64 ((x4_3.length : Int) - 1)))))) + t181))))))) else (pLaws.j9 k6 l0 x3_1 x4_3 (wrap64 ((wrap64 (x5_3 + (wrap64 (t179 * (wrap64 ((x4_3.length : Int) - 1)))))) + t181)) x15_6 true)) = some r := H
                      have A117 := Aside0.mk A1170; clear A1170
                      by_cases c118 : t217 = 0
                      ·rw [if_pos c118] at H
                       have c118b0 : (t217 == 0) = true := beq_iff_eq.mpr c118
                       have c118b1 : (t217 != 0) = false := bne_eq_false_iff_eq.mpr c118
                       clear c118
                       (first | rw [c118b0] | (simp only [i64_w, i32_w]; rw [c118b0]) | skip)
                       by_cases c119 : t213 < 0
                       ·rw [if_pos c119] at H
                        have c119b0 : decide (t213 < 0) = true := decide_eq_true c119
                        clear c119
                        have H' := Aside0.mk H
                        clear H
                        go_wp2_with (first | ((with_reducible refine gate_callee (f := 20) rfl ?_); refine goesL_ (some 231) rfl rfl Try.func20 (by kernel_rfl) rfl #[.int .i64 t215] rfl (by (try simp only [List.map_toArray, List.map_cons, List.map_nil]); first | done | rfl | (simp only [List.length_drop, List.length_take]; rfl)) ?_; (with_reducible refine (arraslaw21_num.calls t215 t217 _ A117.out).mono ?_); rintro e w' ⟨rfl, ⟨nd, rfl⟩⟩; refine ⟨_, rfl, ?_⟩; have hcz120_0 : w115.cell? ⟨gb216, 0, none⟩ = some (.int .i64 0) := (blk_cell BK216.out 0).trans rfl; have hcz120_1 : w115.cell? ⟨gb216, 1, none⟩ = some (.int .i64 0) := (blk_cell BK216.out 1).trans rfl; have hfz120_0 := blk_frozen BK216.out 0; have hfz120_1 := blk_frozen BK216.out 1))
                        go_meet
                        case rel => exact ⟨_, (true), (by first | rfl | (simp; done) | (simp [*]; done)), H', ⟨by have := HK1.out; have := HJ1.out; have := HK3.out; have := HJ4.out; have := HK5.out; have := HK6.out; first | omega | exact Nat.le_refl _⟩, ⟨by (with_reducible repeat (first | apply Kd.R_alloc | apply Kd.R_drewN | apply Kd.R_drew)); exact Kd.R_mono (Kd.R_far (p := ⟨gb216, 1, none⟩) (Kd.R_far (p := ⟨gb216, 0, none⟩) (Kd.R_types HO_4.out BK216.out (by decide)) (fun _ hk => hk.2) (.int .i64 t213)) (fun _ hk => hk.2) (.int .i64 t214)) (fun _ hk => trivial)⟩, ⟨by (with_reducible repeat (first | refine blk_drewN ?_ _ | refine blk_drew ?_ | refine blk_alloc ?_ _)); refine blk_put (cs := #[.int .i64 t213, .int .i64 0]) ?_ 1 _ rfl; (with_reducible repeat (first | refine blk_drewN ?_ _ | refine blk_drew ?_ | refine blk_alloc ?_ _)); refine blk_put (cs := #[.int .i64 0, .int .i64 0]) ?_ 0 _ rfl; (with_reducible repeat (first | refine blk_drewN ?_ _ | refine blk_drew ?_ | refine blk_alloc ?_ _)); exact BK216.out⟩, ⟨by repeat (first | (with_reducible first | exact HB.out | apply below_alloc | apply pw_below_drewN | apply below_drew1 | refine below_set ?_ GE216.out) | exact HB.out)⟩⟩
                       ·rw [if_neg c119] at H
                        have c119b0 : decide (t213 < 0) = false := decide_eq_false c119
                        clear c119
                        by_cases c121 : t214 < 0
                        ·rw [if_pos c121] at H
                         have c121b0 : decide (t214 < 0) = true := decide_eq_true c121
                         clear c121
                         have H' := Aside0.mk H
                         clear H
                         go_wp2_with (first | ((with_reducible refine gate_callee (f := 20) rfl ?_); refine goesL_ (some 231) rfl rfl Try.func20 (by kernel_rfl) rfl #[.int .i64 t215] rfl (by (try simp only [List.map_toArray, List.map_cons, List.map_nil]); first | done | rfl | (simp only [List.length_drop, List.length_take]; rfl)) ?_; (with_reducible refine (arraslaw21_num.calls t215 t217 _ A117.out).mono ?_); rintro e w' ⟨rfl, ⟨nd, rfl⟩⟩; refine ⟨_, rfl, ?_⟩; have hcz122_0 : w115.cell? ⟨gb216, 0, none⟩ = some (.int .i64 0) := (blk_cell BK216.out 0).trans rfl; have hcz122_1 : w115.cell? ⟨gb216, 1, none⟩ = some (.int .i64 0) := (blk_cell BK216.out 1).trans rfl; have hfz122_0 := blk_frozen BK216.out 0; have hfz122_1 := blk_frozen BK216.out 1))
                         go_meet
                         case rel => exact ⟨_, (true), (by first | rfl | (simp; done) | (simp [*]; done)), H', ⟨by have := HK1.out; have := HJ1.out; have := HK3.out; have := HJ4.out; have := HK5.out; have := HK6.out; first | omega | exact Nat.le_refl _⟩, ⟨by (with_reducible repeat (first | apply Kd.R_alloc | apply Kd.R_drewN | apply Kd.R_drew)); exact Kd.R_mono (Kd.R_far (p := ⟨gb216, 1, none⟩) (Kd.R_far (p := ⟨gb216, 0, none⟩) (Kd.R_types HO_4.out BK216.out (by decide)) (fun _ hk => hk.2) (.int .i64 t213)) (fun _ hk => hk.2) (.int .i64 t214)) (fun _ hk => trivial)⟩, ⟨by (with_reducible repeat (first | refine blk_drewN ?_ _ | refine blk_drew ?_ | refine blk_alloc ?_ _)); refine blk_put (cs := #[.int .i64 t213, .int .i64 0]) ?_ 1 _ rfl; (with_reducible repeat (first | refine blk_drewN ?_ _ | refine blk_drew ?_ | refine blk_alloc ?_ _)); refine blk_put (cs := #[.int .i64 0, .int .i64 0]) ?_ 0 _ rfl; (with_reducible repeat (first | refine blk_drewN ?_ _ | refine blk_drew ?_ | refine blk_alloc ?_ _)); exact BK216.out⟩, ⟨by repeat (first | (with_reducible first | exact HB.out | apply below_alloc | apply pw_below_drewN | apply below_drew1 | refine below_set ?_ GE216.out) | exact HB.out)⟩⟩
                        ·rw [if_neg c121] at H
                         have c121b0 : decide (t214 < 0) = false := decide_eq_false c121
                         clear c121
                         have H' := Aside0.mk H
                         clear H
                         go_wp2_with (first | ((with_reducible refine gate_callee (f := 20) rfl ?_); refine goesL_ (some 231) rfl rfl Try.func20 (by kernel_rfl) rfl #[.int .i64 t215] rfl (by (try simp only [List.map_toArray, List.map_cons, List.map_nil]); first | done | rfl | (simp only [List.length_drop, List.length_take]; rfl)) ?_; (with_reducible refine (arraslaw21_num.calls t215 t217 _ A117.out).mono ?_); rintro e w' ⟨rfl, ⟨nd, rfl⟩⟩; refine ⟨_, rfl, ?_⟩; have hcz123_0 : w115.cell? ⟨gb216, 0, none⟩ = some (.int .i64 0) := (blk_cell BK216.out 0).trans rfl; have hcz123_1 : w115.cell? ⟨gb216, 1, none⟩ = some (.int .i64 0) := (blk_cell BK216.out 1).trans rfl; have hfz123_0 := blk_frozen BK216.out 0; have hfz123_1 := blk_frozen BK216.out 1))
                         go_meet
                         case rel => exact ⟨_, (decide ((wrap64 (t213 + t214)) > (wrap64 ((wrap64 (x5_3 + (wrap64 (t179 * (wrap64 ((x4_3.length : Int) - 1)))))) + t181)))), (by first | rfl | (simp; done) | (simp [*]; done)), H', ⟨by have := HK1.out; have := HJ1.out; have := HK3.out; have := HJ4.out; have := HK5.out; have := HK6.out; first | omega | exact Nat.le_refl _⟩, ⟨by (with_reducible repeat (first | apply Kd.R_alloc | apply Kd.R_drewN | apply Kd.R_drew)); exact Kd.R_mono (Kd.R_far (p := ⟨gb216, 1, none⟩) (Kd.R_far (p := ⟨gb216, 0, none⟩) (Kd.R_types HO_4.out BK216.out (by decide)) (fun _ hk => hk.2) (.int .i64 t213)) (fun _ hk => hk.2) (.int .i64 t214)) (fun _ hk => trivial)⟩, ⟨by (with_reducible repeat (first | refine blk_drewN ?_ _ | refine blk_drew ?_ | refine blk_alloc ?_ _)); refine blk_put (cs := #[.int .i64 t213, .int .i64 0]) ?_ 1 _ rfl; (with_reducible repeat (first | refine blk_drewN ?_ _ | refine blk_drew ?_ | refine blk_alloc ?_ _)); refine blk_put (cs := #[.int .i64 0, .int .i64 0]) ?_ 0 _ rfl; (with_reducible repeat (first | refine blk_drewN ?_ _ | refine blk_drew ?_ | refine blk_alloc ?_ _)); exact BK216.out⟩, ⟨by repeat (first | (with_reducible first | exact HB.out | apply below_alloc | apply pw_below_drewN | apply below_drew1 | refine below_set ?_ GE216.out) | exact HB.out)⟩⟩
                      ·rw [if_neg c118] at H
                       have c118b0 : (t217 == 0) = false := beq_eq_false_iff_ne.mpr c118
                       have c118b1 : (t217 != 0) = true := bne_iff_ne.mpr c118
                       (first | rw [c118b0] | (simp only [i64_w, i32_w]; rw [c118b0]) | skip)
                       have H' := Aside0.mk H
                       clear H
                       go_wp2_with (first | ((with_reducible refine gate_callee (f := 20) rfl ?_); refine goesL_ (some 231) rfl rfl Try.func20 (by kernel_rfl) rfl #[.int .i64 t215] rfl (by (try simp only [List.map_toArray, List.map_cons, List.map_nil]); first | done | rfl | (simp only [List.length_drop, List.length_take]; rfl)) ?_; (with_reducible refine (arraslaw21_num.calls t215 t217 _ A117.out).mono ?_); rintro e w' ⟨rfl, ⟨nd, rfl⟩⟩; refine ⟨_, rfl, ?_⟩))
                       go_meet
                       case rel => exact ⟨_, (true), (by first | rfl | (simp; done) | (simp [*]; done)), H', ⟨by have := HK1.out; have := HJ1.out; have := HK3.out; have := HJ4.out; have := HK5.out; have := HK6.out; first | omega | exact Nat.le_refl _⟩, ⟨by (with_reducible repeat (first | apply Kd.R_alloc | apply Kd.R_drewN | apply Kd.R_drew)); exact Kd.R_mono (Kd.R_far (p := ⟨gb216, 1, none⟩) (Kd.R_far (p := ⟨gb216, 0, none⟩) (Kd.R_types HO_4.out BK216.out (by decide)) (fun _ hk => hk.2) (.int .i64 t213)) (fun _ hk => hk.2) (.int .i64 t214)) (fun _ hk => trivial)⟩, ⟨by (with_reducible repeat (first | refine blk_drewN ?_ _ | refine blk_drew ?_ | refine blk_alloc ?_ _)); refine blk_put (cs := #[.int .i64 t213, .int .i64 0]) ?_ 1 _ rfl; (with_reducible repeat (first | refine blk_drewN ?_ _ | refine blk_drew ?_ | refine blk_alloc ?_ _)); refine blk_put (cs := #[.int .i64 0, .int .i64 0]) ?_ 0 _ rfl; (with_reducible repeat (first | refine blk_drewN ?_ _ | refine blk_drew ?_ | refine blk_alloc ?_ _)); exact BK216.out⟩, ⟨by repeat (first | (with_reducible first | exact HB.out | apply below_alloc | apply pw_below_drewN | apply below_drew1 | refine below_set ?_ GE216.out) | exact HB.out)⟩⟩
                     case rest => as_aux_lemma =>
                      clear HC113
                      try clear c1
                      try clear p1
                      try clear q1
                      try clear hx1
                      try clear qi1
                      try clear c2
                      try clear p2
                      try clear q2
                      try clear hx2
                      try clear qi2
                      try clear c6
                      try clear p6
                      try clear c8
                      try clear c9
                      try clear c10
                      try clear c11
                      try clear c12
                      try clear p19
                      try clear q19
                      try clear hx19
                      try clear qi19
                      try clear c20
                      try clear p20
                      try clear q20
                      try clear hx20
                      try clear qi20
                      try clear p21
                      try clear q21
                      try clear hx21
                      try clear qi21
                      try clear c26
                      try clear c26b0
                      try clear c27
                      try clear c60
                      try clear c61
                      try clear c62
                      try clear p64
                      try clear c66
                      try clear c66b0
                      try clear c66b1
                      try clear c67
                      try clear c68
                      try clear c68b0
                      try clear c68b1
                      try clear c85
                      try clear c85b0
                      try clear c85b1
                      try clear c86
                      try clear c86b0
                      try clear c86b1
                      try clear c87
                      try clear c87b0
                      try clear c87b1
                      try clear c88
                      try clear c88b0
                      try clear c88b1
                      try clear c89
                      try clear c89b0
                      try clear c90
                      try clear c90b0
                      try clear c91
                      try clear c91b0
                      try clear c91b1
                      try clear c92
                      try clear c92b0
                      try clear c92b1
                      try clear c93
                      try clear c93b0
                      try clear c93b1
                      try clear c94
                      try clear c94b0
                      try clear c94b1
                      try clear c95
                      try clear c95b0
                      try clear c95b1
                      try clear c96
                      try clear c96b0
                      try clear c96b1
                      try clear c97
                      try clear c97b0
                      try clear c97b1
                      try clear c98
                      try clear c98b0
                      try clear c98b1
                      try clear c99
                      try clear c99b0
                      try clear c99b1
                      try clear c100
                      try clear c100b0
                      try clear c101
                      try clear c101b0
                      try clear c102
                      try clear c102b0
                      try clear c102b1
                      try clear c103
                      try clear c103b0
                      try clear c103b1
                      try clear c104
                      try clear c104b0
                      try clear c104b1
                      try clear c105
                      try clear c105b0
                      try clear c105b1
                      try clear c106
                      try clear c106b0
                      try clear c106b1
                      try clear c107
                      try clear c107b0
                      try clear c107b1
                      try clear c108
                      try clear c108b0
                      try clear c108b1
                      try clear c109
                      try clear c110
                      try clear c110b0
                      try clear c111
                      try clear c111b0
                      try clear c111b1
                      try clear c118
                      try clear c118b0
                      try clear c118b1
                      try clear c119
                      try clear c119b0
                      try clear c121
                      try clear c121b0
                      try clear hcz116_0
                      try clear hcz116_1
                      try clear hcz120_0
                      try clear hcz120_1
                      try clear hcz122_0
                      try clear hcz122_1
                      try clear hcz123_0
                      try clear hcz123_1
                      try clear hfz116_0
                      try clear hfz116_1
                      try clear hfz120_0
                      try clear hfz120_1
                      try clear hfz122_0
                      try clear hfz122_1
                      try clear hfz123_0
                      try clear hfz123_1
                      try clear hx195_0
                      try clear hx204_0
                      try clear hx205_0
                      try clear hx206_0
                      try clear hx207_0
                      try clear hx208_0
                      try clear hx209_0
                      try clear hx210_0
                      try clear hx211_0
                      try clear hx212_0
                      try clear p1
                      try clear p19
                      try clear p195
                      try clear p2
                      try clear p20
                      try clear p204
                      try clear p205
                      try clear p206
                      try clear p207
                      try clear p208
                      try clear p209
                      try clear p21
                      try clear p210
                      try clear p211
                      try clear p212
                      try clear p6
                      try clear p64
                      try clear q1
                      try clear q19
                      try clear q195
                      try clear q2
                      try clear q20
                      try clear q204
                      try clear q205
                      try clear q206
                      try clear q207
                      try clear q208
                      try clear q209
                      try clear q21
                      try clear q210
                      try clear q211
                      try clear q212
                      obtain ⟨kq, x251_112, rfl, HA, HJ112, HO_4, BK216, HB⟩ := hcut
                      cases kq with
                      | zero => exact absurd HA.out (by simp [pLaws.j9])
                      | succ kj112 =>
                       have H := HA.out
                       clear HA
                       simp only [pLaws.j9] at H
                       by_cases c124 : x251_112 = true
                       ·subst c124
                        have H1 : (some false) = some r := by rw [if_pos rfl] at H; exact H
                        clear H; have H := H1; clear H1
                        obtain rfl := Option.some.inj H
                        go_wp2
                        go_ret
                        exact ⟨by first | rfl | (simp [errW_none, errW_some] <;> rfl) | (simp [*, errW_none, errW_some] <;> rfl), by repeat (first | (with_reducible first | exact HB.out | apply below_alloc | apply pw_below_drewN | apply below_drew1 | refine below_set ?_ GE216.out) | exact HB.out)⟩
                       ·replace c124 := Bool.eq_false_iff.mpr c124
                        subst c124
                        have H1 : (pLaws.l4 kj112 l0 x3_1 x4_3 (wrap64 ((wrap64 (x5_3 + (wrap64 (t179 * (wrap64 ((x4_3.length : Int) - 1)))))) + t181)) (wrap64 (x15_6 + 1))) = some r := by rw [if_neg (show ¬ (false = true) by decide)] at H; exact H
                        clear H; have H := H1; clear H1
                        have H' := Aside0.mk H
                        clear H
                        go_wp2
                        go_roundg kj112
                        case measure => have := HK1.out; have := HJ1.out; have := HK3.out; have := HJ4.out; have := HK5.out; have := HK6.out; have := HJ112.out; omega
                        case rel => exact ⟨(wrap64 (x15_6 + 1)), (by first | rfl | (simp; done) | (simp [*]; done)), H', ⟨by have := HK1.out; have := HJ1.out; have := HK3.out; have := HJ4.out; have := HK5.out; have := HK6.out; have := HJ112.out; omega⟩, ⟨by (with_reducible repeat (first | apply Kd.R_alloc | apply Kd.R_drewN | apply Kd.R_drew)); exact HO_4.out⟩, ⟨by repeat (first | (with_reducible first | exact HB.out | apply below_alloc | apply pw_below_drewN | apply below_drew1 | refine below_set ?_ GE216.out) | exact HB.out)⟩⟩
                    ·rw [if_neg c111] at H
                     exact absurd H (by simp)
                   ·rw [if_neg c110] at H
                    have c110b0 : decide (x15_6 ≤ 3) = false := decide_eq_false c110
                    clear c110
                    have H' := Aside0.mk H
                    clear H
                    go_wp2
                    go_roundg k6
                    case measure => have := HK1.out; have := HJ1.out; have := HK3.out; have := HJ4.out; have := HK5.out; have := HK6.out; omega
                    case rel => exact ⟨(wrap64 (x3_1 + 1)), (by first | rfl | (simp; done) | (simp [*]; done)), H', ⟨by have := HK1.out; have := HJ1.out; have := HK3.out; have := HJ4.out; have := HK5.out; have := HK6.out; omega⟩, ⟨by repeat (first | (with_reducible first | exact HB.out | apply below_alloc | apply pw_below_drewN | apply below_drew1) | exact HB.out)⟩⟩
            ·rw [if_neg c20] at H
             exact absurd H (by simp)
           ·rw [if_neg c19] at H
            exact absurd H (by simp)
     ·replace c4 := Bool.eq_false_iff.mpr c4
      subst c4
      have H1 : ((arrasref1_Coord.f 1).bind fun t218 => (if t218 = true then ((arraslaw21_wakes.f kj1).bind fun t219 => (some t219)) else (some false))) = some r := by rw [if_neg (show ¬ (false = true) by decide)] at H; exact H
      clear H; have H := H1; clear H1
      replace H := Option.bind_eq_some_iff.mp H
      obtain ⟨t218, A1250, H⟩ := H
      replace H : (if t218 = true then ((arraslaw21_wakes.f kj1).bind fun t219 => (some t219)) else (some false)) = some r := H
      have A125 := Aside0.mk A1250; clear A1250
      by_cases c126 : t218 = true
      ·subst c126
       have H1 : ((arraslaw21_wakes.f kj1).bind fun t219 => (some t219)) = some r := by rw [if_pos rfl] at H; exact H
       clear H; have H := H1; clear H1
       replace H := Option.bind_eq_some_iff.mp H
       obtain ⟨t219, A1270, H⟩ := H
       replace H : (some t219) = some r := H
       have A127 := Aside0.mk A1270; clear A1270
       obtain rfl := Option.some.inj H
       go_wp2_with (first | ((with_reducible refine gate_callee (f := 31) rfl ?_); refine goesL_ (some 252) rfl rfl Try.func31 (by kernel_rfl) rfl #[.int .i64 1] rfl (by (try simp only [List.map_toArray, List.map_cons, List.map_nil]); first | done | rfl | (simp only [List.length_drop, List.length_take]; rfl)) ?_; (with_reducible refine (arrasref1_Coord.calls 1 true _ A125.out).mono ?_); rintro e w' ⟨rfl, ⟨nd, rfl⟩⟩; refine ⟨_, rfl, ?_⟩) | (go_at_call 26; (with_reducible refine (arraslaw21_wakes.calls kj1  t219 _ A127.out).mono ?_); rintro e w128 ⟨rfl, hb⟩; have n0_ := Aside0.mk (below_step (by repeat (first | (with_reducible first | exact HB.out | apply below_alloc | apply pw_below_drewN | apply below_drew1) | exact HB.out)) hb); clear HB; have HB := n0_; clear n0_; (try clear hb); (try clear hb2); (try clear hk); (try clear hi)))
       go_ret
       exact ⟨by first | rfl | (simp [errW_none, errW_some] <;> rfl) | (simp [*, errW_none, errW_some] <;> rfl), by repeat (first | (with_reducible first | exact HB.out | apply below_alloc | apply pw_below_drewN | apply below_drew1) | exact HB.out)⟩
      ·replace c126 := Bool.eq_false_iff.mpr c126
       subst c126
       have H1 : (some false) = some r := by rw [if_neg (show ¬ (false = true) by decide)] at H; exact H
       clear H; have H := H1; clear H1
       obtain rfl := Option.some.inj H
       go_wp2_with (first | ((with_reducible refine gate_callee (f := 31) rfl ?_); refine goesL_ (some 252) rfl rfl Try.func31 (by kernel_rfl) rfl #[.int .i64 1] rfl (by (try simp only [List.map_toArray, List.map_cons, List.map_nil]); first | done | rfl | (simp only [List.length_drop, List.length_take]; rfl)) ?_; (with_reducible refine (arrasref1_Coord.calls 1 false _ A125.out).mono ?_); rintro e w' ⟨rfl, ⟨nd, rfl⟩⟩; refine ⟨_, rfl, ?_⟩))
       go_ret
       exact ⟨by first | rfl | (simp [errW_none, errW_some] <;> rfl) | (simp [*, errW_none, errW_some] <;> rfl), by repeat (first | (with_reducible first | exact HB.out | apply below_alloc | apply pw_below_drewN | apply below_drew1) | exact HB.out)⟩

end Go.Proofs.Yteecoblmjjmbhaa.PA
