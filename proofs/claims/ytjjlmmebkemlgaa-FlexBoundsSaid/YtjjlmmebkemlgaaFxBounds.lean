/-
The law FlexBounds, by the machine.
-/
import Derived.Test.YtjjlmmebkemlgaaFxAsks
set_option linter.unusedVariables false
set_option linter.unusedSimpArgs false
namespace Go.Ai
open Go.Proofs
attribute [local go_sem] ex_extract ex_move ex_assign ex_nilCheck ex_fieldAddr ex_indexAddr ex_load ex_pick ex_field pick_b ev evs Sl.get_set' ofInt ofBool ofNil mv_some nil_p Nat.zero_add Nat.mul_one List.drop_succ_cons List.drop_zero List.take_succ_cons List.take_zero List.nil_append List.cons_append oneR_some aggR_some cond_true cond_false
attribute [local go_sem] IX38 LD41 FA41_0 LD39 IX39 FA41_1 LD3 FA41_2 IX23 LD46 FA46_0 FA46_3 FA46_1 FA46_2 FA46_4 IX61 LD4 IX64 LD66 FA66_1 FA72_4 LD23 FA66_0 FA72_0 FA72_5 LD61 FA72_1 FA72_2 FA72_3
set_option maxHeartbeats 0 in
theorem bounds_fn {spec : CallF} (hs : SpecRes spec) (hs1 : SpecFlex spec) (hs2 : SpecSort spec) (hs3 : SpecEq spec) (hs8 : ∀ args h, spec 8 args h = none) {h : H} {v : S} {A : List Ask} (ok : Ok h) (hA : AsksAt h v A) :
    WF Try.prog spec 8 [.one v] h fun r h1 => r = .one (.b true) := by
  refine WF_of Try.func8 rfl (hs8 _ _) (by rw [Try.ntmps8]; simp) (by rw [Try.ntmps8]; decide) ?_
  rw [Try.ntmps8, Try.results8]
  simp only [Sl.setMany_cons, Sl.setMany_nil, Nat.zero_add, Nat.reduceAdd]
  (repeat refine W_seq ?_); refine W_region ?_
  (refine WO_val (by simp only [go_sem, ↓reduceIte, Nat.reduceEqDiff, Nat.reduceAdd]; rfl) (by decide) ?_)
  refine WO_nil ?_; (repeat refine W_seq ?_)
  refine W_region ?_
  (refine WO_val (by simp only [go_sem, ↓reduceIte, Nat.reduceEqDiff, Nat.reduceAdd]; rfl) (by decide) ?_)
  refine WO_nil ?_; (repeat refine W_seq ?_)
  refine W_block (W_rounds (fun j T h1 => ∃ k, j = 10 - k ∧ k ≤ 10 ∧ T.get 0 = some (.one v) ∧ T.get 3 = some (.one (.i .i64 (k : Int))) ∧ Up (· < h.next) h h1 ∧ Ok h1) ?_ 10 _ _ ⟨0, rfl, by omega, by (simp only [go_sem, ↓reduceIte, Nat.reduceEqDiff] <;> first | rfl | simp), by (simp only [go_sem, ↓reduceIte, Nat.reduceEqDiff] <;> first | rfl | simp), .refl _ _, ok⟩)
  rintro j T h1 ⟨k, rfl, hk, t0, t3, u1, o1⟩
  have hn1 := u1.next
  repeat refine W_seq ?_
  refine W_cut (fun T1 h2 => h2 = h1 ∧ T1.get 0 = some (.one v) ∧ T1.get 3 = some (.one (.i .i64 (k : Int))) ∧ T1.get 19 = some (.one (.b (decide ((k : Int) < (A.length : Int)) && decide ((k : Int) < 10))))) ?_ ?_
  · refine W_region ?_
    iterate 2 (refine WO_val (by simp only [go_sem, ↓reduceIte, Nat.reduceEqDiff, Nat.reduceAdd, t0, t3]; rfl) (by decide) ?_)
    refine WO_val (hA.len (by (simp only [go_sem, ↓reduceIte, Nat.reduceEqDiff] <;> rfl))) (by decide) ?_
    (refine WO_val (ex_bin (by simp only [go_sem, ↓reduceIte, Nat.reduceEqDiff, t0, t3]; rfl) (by simp only [go_sem, ↓reduceIte, Nat.reduceEqDiff, t0, t3]; rfl) in_lss) (by decide) ?_)
    (refine WO_val (by simp only [go_sem, ↓reduceIte, Nat.reduceEqDiff, Nat.reduceAdd, t0, t3]; rfl) (by decide) ?_)
    refine WO_grd rfl rfl (by simp only [go_sem, ↓reduceIte, Nat.reduceEqDiff, t0, t3]; rfl) (fun c1 => ?_) (fun c1 => ?_)
    · (refine WO_valG (wantB_true rfl rfl (by simp only [go_sem, ↓reduceIte, Nat.reduceEqDiff, t0, t3, c1]; rfl) rfl) (by simp only [go_sem, ↓reduceIte, Nat.reduceEqDiff, Nat.reduceAdd, t0, t3, c1]; rfl) (by decide) ?_)
      (refine WO_valG (wantB_true rfl rfl (by simp only [go_sem, ↓reduceIte, Nat.reduceEqDiff, t0, t3, c1]; rfl) rfl) (ex_bin (by simp only [go_sem, ↓reduceIte, Nat.reduceEqDiff, t0, t3, c1]; rfl) (by simp only [go_sem, ↓reduceIte, Nat.reduceEqDiff, t0, t3, c1]; rfl) in_lss) (by decide) ?_)
      (refine WO_val (by simp only [go_sem, ↓reduceIte, Nat.reduceEqDiff, Nat.reduceAdd, t0, t3, c1]; rfl) (by decide) ?_)
      refine WO_nil ⟨rfl, rfl, by (simp only [go_sem, ↓reduceIte, Nat.reduceEqDiff, t0, c1] <;> first | rfl | simp), by (simp only [go_sem, ↓reduceIte, Nat.reduceEqDiff, t3, c1] <;> first | rfl | simp), ?_⟩
      simp only [go_sem, ↓reduceIte, Nat.reduceEqDiff, c1]
      simp [c1]
    · refine WO_notG (wantB_false rfl rfl (by simp only [go_sem, ↓reduceIte, Nat.reduceEqDiff, t0, t3, c1]; rfl) rfl) (by decide) ?_
      refine WO_notG (wantB_false rfl rfl (by simp only [go_sem, ↓reduceIte, Nat.reduceEqDiff, t0, t3, c1]; rfl) rfl) (by decide) ?_
      (refine WO_val (by simp only [go_sem, ↓reduceIte, Nat.reduceEqDiff, Nat.reduceAdd, t0, t3, c1]; rfl) (by decide) ?_)
      refine WO_nil ⟨rfl, rfl, by (simp only [go_sem, ↓reduceIte, Nat.reduceEqDiff, t0, c1] <;> first | rfl | simp), by (simp only [go_sem, ↓reduceIte, Nat.reduceEqDiff, t3, c1] <;> first | rfl | simp), ?_⟩
      simp only [go_sem, ↓reduceIte, Nat.reduceEqDiff, c1]
      simp [c1]
  clear t0 t3
  rintro T1 h1 ⟨rfl, t0, t3, t19⟩
  refine W_cond (by (simp only [go_sem, ↓reduceIte, Nat.reduceEqDiff, t19] <;> rfl)) (fun hlt => W_skip ?_) (fun hge => W_exit ?_)
  · have hlt : k < A.length ∧ k < 10 := by simp at hlt; omega
    obtain ⟨a, ha⟩ : ∃ a, A[k]? = some a := ⟨_, List.getElem?_eq_getElem hlt.1⟩
    obtain ⟨b, c, rfl, hbn, hrow⟩ : ∃ b c, v = .sl b 0 A.length c 3 false ∧ b < h.next ∧ ∀ k a, A[k]? = some a → ∃ s, h.row b (k * 3) 3 = some [s, .i .i64 a.gap, .i .i64 a.room] ∧ ItemsAt h s a.L := by
      rcases hA with ⟨rfl, _⟩ | q
      · simp at hlt
      · exact q
    obtain ⟨s, hrs, hiS⟩ := hrow k a ha
    have r1 : h1.row b (k * 3) 3 = some [s, .i .i64 a.gap, .i .i64 a.room] := by rw [u1.row hbn]; exact hrs
    obtain ⟨L, gap, room⟩ := a
    simp only at r1 hiS
    have hlen8 := hlt.1
    repeat refine W_seq ?_
    refine W_cut (fun T1 h2 => T1.get 0 = some (.one (.sl b 0 A.length c 3 false)) ∧ T1.get 3 = some (.one (.i .i64 (k : Int))) ∧ Up (· < h.next) h h2 ∧ Ok h2) ?_ ?_
    · refine W_block ?_
      (repeat refine W_seq ?_); refine W_region ?_
      iterate 2 (refine WO_val (by simp only [go_sem, ↓reduceIte, Nat.reduceEqDiff, Nat.reduceAdd, t0, t3]; rfl) (by decide) ?_)
      (refine WO_val (by simp (disch := first | omega | simp) only [go_sem, ↓reduceIte, Nat.reduceEqDiff, Nat.reduceAdd, t0, t3]; rfl) (by decide) ?_)
      (refine WO_val (by simp (disch := first | omega | simp) only [go_sem, ↓reduceIte, Nat.reduceEqDiff, Nat.reduceAdd, r1, t0, t3]; rfl) (by decide) ?_)
      refine WO_alloc zb41 rfl o1 (by decide) fun h4 n4 => ?_
      refine WO_storeA (by (simp only [go_sem, ↓reduceIte, Nat.reduceEqDiff] <;> rfl)) (by (simp only [go_sem, ↓reduceIte, Nat.reduceEqDiff] <;> rfl)) sz41 rfl (by simp) n4.cells n4.may (by simp [V.cells]) fun h5 p5 => ?_
      have c5 := p5.cells
      simp only [V.cells, List.take_zero, List.nil_append, List.length_cons, List.length_nil, Nat.reduceAdd, Nat.zero_add, List.drop_succ_cons, List.drop_zero, List.append_nil] at c5
      have e4 := n4.next
      have e5 := p5.next
      have u5 : Up (· < h1.next) h1 h5 := n4.up.trans (p5.up.mono fun b hb => by omega)
      have o5 := p5.ok n4.ok
      have hi5 := (hiS.upLt u1).upLt u5
      refine WO_nil ?_; (repeat refine W_seq ?_)
      refine W_region ?_
      (refine WO_val (by simp only [go_sem, ↓reduceIte, Nat.reduceEqDiff, Nat.reduceAdd]; rfl) (by decide) ?_)
      (refine WO_val (by simp (disch := first | omega | simp) only [go_sem, ↓reduceIte, Nat.reduceEqDiff, Nat.reduceAdd, c5.row]; rfl) (by decide) ?_)
      (refine WO_val (by simp only [go_sem, ↓reduceIte, Nat.reduceEqDiff, Nat.reduceAdd]; rfl) (by decide) ?_)
      (refine WO_val (by simp (disch := first | omega | simp) only [go_sem, ↓reduceIte, Nat.reduceEqDiff, Nat.reduceAdd, c5.row]; rfl) (by decide) ?_)
      (refine WO_val (by simp only [go_sem, ↓reduceIte, Nat.reduceEqDiff, Nat.reduceAdd]; rfl) (by decide) ?_)
      (refine WO_val (by simp (disch := first | omega | simp) only [go_sem, ↓reduceIte, Nat.reduceEqDiff, Nat.reduceAdd, c5.row]; rfl) (by decide) ?_)
      refine WO_fn (by (simp only [go_sem, ↓reduceIte, Nat.reduceEqDiff] <;> rfl)) (by simp) (by decide) ((resolve_fn hs hs1 hs2 o5 hi5).mono ?_)
      rintro r h6 ⟨x, rfl, g6, u6, o6⟩
      have hn6 := u6.next
      have hi6 := hi5.upLt u6
      have c6 := u6.cells (show h1.next < h5.next by omega) c5
      iterate 5 (refine WO_val (by simp only [go_sem, ↓reduceIte, Nat.reduceEqDiff, Nat.reduceAdd]; rfl) (by decide) ?_)
      refine WO_nil ?_; (repeat refine W_seq ?_)
      refine W_region ?_
      (refine WO_val (by simp only [go_sem, ↓reduceIte, Nat.reduceEqDiff, Nat.reduceAdd]; rfl) (by decide) ?_)
      refine WO_fn (by (simp only [go_sem, ↓reduceIte, Nat.reduceEqDiff] <;> rfl)) (by simp) (by decide) ((num_fn hs3).mono ?_)
      rintro r h6 ⟨rfl, rfl⟩
      (refine WO_val (ex_bin (by simp only [go_sem, ↓reduceIte, Nat.reduceEqDiff]; rfl) (by simp only [go_sem, ↓reduceIte, Nat.reduceEqDiff]; rfl) in_neq) (by decide) ?_)
      refine WO_nil ?_; (repeat refine W_seq ?_)
      have u16 : Up (· < h.next) h h6 := u1.trans ((u5.mono fun b hb => by omega).trans (u6.mono fun b hb => by omega))
      refine W_cond (by (simp only [go_sem, ↓reduceIte, Nat.reduceEqDiff] <;> rfl)) (fun hc => W_exit ?_) (fun hc => W_skip ?_)
      · exact ⟨fun _ => ⟨rfl, by (simp only [go_sem, ↓reduceIte, Nat.reduceEqDiff, t0] <;> first | rfl | simp), by (simp only [go_sem, ↓reduceIte, Nat.reduceEqDiff, t3] <;> first | rfl | simp), u16, o6⟩, fun hne => absurd rfl hne⟩
      have hr : resOk L gap room = true := by
        cases hq : resOk L gap room
        · simp [hq] at hc
        · rfl
      have lok := resOk_iff.1 hr
      rw [hr, if_pos rfl] at g6
      have hXl : (solveI prtI L gap room).length = L.length := solve_length
      have hb : Bent L (solveI prtI L gap room) := bent_solve
      generalize solveI prtI L gap room = X at g6 hXl hb
      (repeat refine W_seq ?_); refine W_region ?_
      (refine WO_val (by simp only [go_sem, ↓reduceIte, Nat.reduceEqDiff, Nat.reduceAdd]; rfl) (by decide) ?_)
      refine WO_val (g6.len (by (simp only [go_sem, ↓reduceIte, Nat.reduceEqDiff] <;> rfl))) (by decide) ?_
      (refine WO_val (by simp only [go_sem, ↓reduceIte, Nat.reduceEqDiff, Nat.reduceAdd]; rfl) (by decide) ?_)
      (refine WO_val (by simp (disch := first | omega | simp) only [go_sem, ↓reduceIte, Nat.reduceEqDiff, Nat.reduceAdd, c6.row]; rfl) (by decide) ?_)
      refine WO_val (hi6.len (by (simp only [go_sem, ↓reduceIte, Nat.reduceEqDiff] <;> rfl))) (by decide) ?_
      (refine WO_val (ex_bin (by simp only [go_sem, ↓reduceIte, Nat.reduceEqDiff]; rfl) (by simp only [go_sem, ↓reduceIte, Nat.reduceEqDiff]; rfl) in_neq) (by decide) ?_)
      refine WO_nil ?_; (repeat refine W_seq ?_)
      refine W_cond (by (simp only [go_sem, ↓reduceIte, Nat.reduceEqDiff] <;> rfl)) (fun hc => by rw [nums_length, hXl] at hc; simp at hc) (fun _ => W_skip ?_)
      clear hc
      (repeat refine W_seq ?_); refine W_region ?_
      (refine WO_val (by simp only [go_sem, ↓reduceIte, Nat.reduceEqDiff, Nat.reduceAdd]; rfl) (by decide) ?_)
      refine WO_nil ?_; (repeat refine W_seq ?_)
      refine W_region ?_
      (refine WO_val (by simp only [go_sem, ↓reduceIte, Nat.reduceEqDiff, Nat.reduceAdd]; rfl) (by decide) ?_)
      refine WO_nil ?_; (repeat refine W_seq ?_)
      refine W_cut (fun T h7 => ∃ w7, T.get 0 = some (.one (.sl b 0 A.length c 3 false)) ∧ T.get 3 = some (.one (.i .i64 (k : Int))) ∧ T.get 4 = some (.one (.p h1.next 0)) ∧ T.get 7 = some (.one w7) ∧ Grown h7 w7 h6.next 46 5 (citems (L.map Itm.still)) ∧ Up (· < h6.next) h6 h7 ∧ Ok h7) ?_ ?_
      · refine W_block (W_rounds (fun j T h7 => ∃ k2 w7, j = L.length - k2 ∧ k2 ≤ L.length ∧ T.get 0 = some (.one (.sl b 0 A.length c 3 false)) ∧ T.get 3 = some (.one (.i .i64 (k : Int))) ∧ T.get 4 = some (.one (.p h1.next 0)) ∧ T.get 5 = some (.one x) ∧ T.get 7 = some (.one w7) ∧ T.get 8 = some (.one (.i .i64 (k2 : Int))) ∧ Grown h7 w7 h6.next 46 5 (citems ((L.take k2).map Itm.still)) ∧ Up (· < h6.next) h6 h7 ∧ Ok h7) ?_ L.length _ _ ⟨0, .sl0, rfl, by omega, by (simp only [go_sem, ↓reduceIte, Nat.reduceEqDiff, t0] <;> first | rfl | simp), by (simp only [go_sem, ↓reduceIte, Nat.reduceEqDiff, t3] <;> first | rfl | simp), by (simp only [go_sem, ↓reduceIte, Nat.reduceEqDiff] <;> first | rfl | simp), by (simp only [go_sem, ↓reduceIte, Nat.reduceEqDiff] <;> first | rfl | simp), by (simp only [go_sem, ↓reduceIte, Nat.reduceEqDiff] <;> first | rfl | simp), by (simp only [go_sem, ↓reduceIte, Nat.reduceEqDiff] <;> first | rfl | simp), .nil, .refl _ _, o6⟩)
        clear t0 t3 t19
        rintro j T2 h7 ⟨k2, w7, rfl, hk2, t0, t3, t4, t5, t7, t8, g7, u7, o7⟩
        have hn7 := u7.next
        have gx7 := g6.up u7 fun q hq => (g6.lt hq).2
        (repeat refine W_seq ?_); refine W_region ?_
        iterate 2 (refine WO_val (by simp only [go_sem, ↓reduceIte, Nat.reduceEqDiff, Nat.reduceAdd, t5, t8]; rfl) (by decide) ?_)
        refine WO_val (gx7.len (by (simp only [go_sem, ↓reduceIte, Nat.reduceEqDiff, t5] <;> rfl))) (by decide) ?_
        (refine WO_val (ex_bin (by simp only [go_sem, ↓reduceIte, Nat.reduceEqDiff, t8]; rfl) (by simp only [go_sem, ↓reduceIte, Nat.reduceEqDiff, t8]; rfl) in_lss) (by decide) ?_)
        refine WO_nil ?_; (repeat refine W_seq ?_)
        refine W_cond (by (simp only [go_sem, ↓reduceIte, Nat.reduceEqDiff] <;> rfl)) (fun hlt2 => W_skip ?_) (fun hge2 => W_exit ?_)
        · have hlt2 : k2 < L.length := by
            rw [nums_length, hXl] at hlt2
            have : (k2 : Int) < (L.length : Int) := by simpa using hlt2
            omega
          obtain ⟨y, hy⟩ : ∃ y, L[k2]? = some y := ⟨_, List.getElem?_eq_getElem hlt2⟩
          have hlen64 := lok.len
          have yok := lok.ok y (List.mem_of_getElem? hy)
          obtain ⟨bs, os, cs, exs, rfl, hbs, hrows⟩ : ∃ b o c ex, s = .sl b o L.length c 5 ex ∧ b < h6.next ∧ ∀ k x, L[k]? = some x → h6.row b (o + k * 5) 5 = some x.cells := by
            rcases hi6 with ⟨rfl, _⟩ | q
            · simp at hlt2
            · exact q
          have r2 : h7.row bs (os + k2 * 5) 5 = some y.cells := by rw [u7.row hbs]; exact hrows k2 y hy
          have hX2 : k2 < X.length := by omega
          obtain ⟨xk, hxk⟩ : ∃ xk, X[k2]? = some xk := ⟨_, List.getElem?_eq_getElem hX2⟩
          obtain ⟨qx, rfl, cX, hqx⟩ : ∃ q, x = .sl q 0 X.length X.length 1 false ∧ Cells h7 q 3 (nums X) ∧ q < h6.next := by
            rcases g6 with ⟨q, _⟩ | ⟨q, n, rfl, p1, p2, p3, p4, p5, p6⟩
            · have := congrArg List.length q; rw [nums_length, List.length_nil] at this; omega
            · have : n = X.length := by rw [nums_length] at p2; omega
              subst this; exact ⟨q, rfl, u7.cells p6 p3, p6⟩
          obtain ⟨z, hz⟩ := hb k2 xk hxk
          have hz : xk = clampI z y.mn y.mx := by
            rw [hz]; unfold clampAt
            rw [List.getD_eq_getElem?_getD, hy]; rfl
          have hmn : decide (xk < y.mn) = false := by
            have := clamp_lo (z := z) (lo := y.mn) (hi := y.mx)
            rw [decide_eq_false_iff_not]; omega
          have hmx : y.mn ≤ y.mx → decide (y.mx < xk) = false := fun q => by
            have := clamp_hi (z := z) yok.mn.1 q
            rw [decide_eq_false_iff_not]; omega
          have c7 := u7.cells (show h1.next < h6.next by omega) c6
          repeat refine W_seq ?_
          refine W_block ?_
          (repeat refine W_seq ?_); refine W_region ?_
          (refine WO_val (by simp only [go_sem, ↓reduceIte, Nat.reduceEqDiff, Nat.reduceAdd, t4, t8]; rfl) (by decide) ?_)
          (refine WO_val (by simp (disch := first | omega | simp) only [go_sem, ↓reduceIte, Nat.reduceEqDiff, Nat.reduceAdd, c7.row, r2, t4, t8]; rfl) (by decide) ?_)
          (refine WO_val (by simp only [go_sem, ↓reduceIte, Nat.reduceEqDiff, Nat.reduceAdd, t4, t8]; rfl) (by decide) ?_)
          (refine WO_val (by simp (disch := first | omega | simp) only [go_sem, ↓reduceIte, Nat.reduceEqDiff, Nat.reduceAdd, t4, t8]; rfl) (by decide) ?_)
          (refine WO_val (by simp (disch := first | omega | simp) only [go_sem, ↓reduceIte, Nat.reduceEqDiff, Nat.reduceAdd, c7.row, r2, t4, t8]; rfl) (by decide) ?_)
          refine WO_alloc zb46 rfl o7 (by decide) fun h8 n8 => ?_
          refine WO_storeA (by (simp only [go_sem, ↓reduceIte, Nat.reduceEqDiff] <;> rfl)) (by (simp only [go_sem, ↓reduceIte, Nat.reduceEqDiff] <;> rfl)) sz46 rfl (by simp [Itm.cells]) n8.cells n8.may (by simp [Itm.cells, V.cells]) fun h9 p9 => ?_
          have c9 := p9.cells
          simp only [Itm.cells, V.cells, List.take_zero, List.nil_append, List.length_cons, List.length_nil, Nat.reduceAdd, Nat.zero_add, List.drop_succ_cons, List.drop_zero, List.append_nil] at c9
          have e8 := n8.next
          have e9 := p9.next
          have u9 : Up (· < h7.next) h7 h9 := n8.up.trans (p9.up.mono fun b hb => by omega)
          have o9 := p9.ok n8.ok
          have m9 : h9.may h7.next = true := by rw [p9.up.may]; exact n8.may
          have rX : h9.row qx k2 1 = some [.i .i64 xk] := (u9.cells (by omega) cX).at1 (nums_get hxk)
          refine WO_nil ?_; (repeat refine W_seq ?_)
          refine W_cut (fun T3 h10 => h10 = h9 ∧ T3.get 0 = some (.one (.sl b 0 A.length c 3 false)) ∧ T3.get 3 = some (.one (.i .i64 (k : Int))) ∧ T3.get 4 = some (.one (.p h1.next 0)) ∧ T3.get 5 = some (.one (.sl qx 0 X.length X.length 1 false)) ∧ T3.get 7 = some (.one w7) ∧ T3.get 8 = some (.one (.i .i64 (k2 : Int))) ∧ T3.get 9 = some (.one (.p h7.next 0)) ∧ T3.get 78 = some (.one (.b false))) ?_ ?_
          · by_cases hm : y.mx < y.mn
            · have d1 : decide (y.mx < y.mn) = true := decide_eq_true hm
              refine W_drawn dr8_14 (by kernel_rfl) o9.floor ?_
              unfold dr8_14
              iterate 2 (refine WI_val rfl wantB_none rfl (by simp only [go_sem, ↓reduceIte, Nat.reduceEqDiff, Nat.reduceAdd, t5, t8, hmn, d1, Bool.not_true]; rfl) (by decide) ?_)
              (refine WI_val rfl wantB_none rfl (by simp (disch := first | omega | simp) only [go_sem, ↓reduceIte, Nat.reduceEqDiff, Nat.reduceAdd, t5, t8, hmn, d1, Bool.not_true]; rfl) (by decide) ?_)
              (refine WI_ld rfl wantB_none (by simp only [go_sem, ↓reduceIte, Nat.reduceEqDiff, t5, t8, hmn, d1, Bool.not_true]; rfl) (by simp (disch := first | omega | simp) only [go_sem, ↓reduceIte, Nat.reduceEqDiff, Nat.reduceAdd, c9.row, rX]; rfl) (by (try simp only [cond_true, cond_false]); repeat (first | exact Off.nil | refine Off.seen rfl ?_ | refine Off.off (by omega) ?_)) (by decide) ?_)
              (refine WI_val rfl wantB_none rfl (by simp only [go_sem, ↓reduceIte, Nat.reduceEqDiff, Nat.reduceAdd, t5, t8, hmn, d1, Bool.not_true]; rfl) (by decide) ?_)
              (refine WI_ld rfl wantB_none (by simp only [go_sem, ↓reduceIte, Nat.reduceEqDiff, t5, t8, hmn, d1, Bool.not_true]; rfl) (by simp (disch := first | omega | simp) only [go_sem, ↓reduceIte, Nat.reduceEqDiff, Nat.reduceAdd, c9.row, rX]; rfl) (by (try simp only [cond_true, cond_false]); repeat (first | exact Off.nil | refine Off.seen rfl ?_ | refine Off.off (by omega) ?_)) (by decide) ?_)
              (refine WI_val rfl wantB_none rfl (ex_bin (by simp only [go_sem, ↓reduceIte, Nat.reduceEqDiff, t5, t8, hmn, d1, Bool.not_true]; rfl) (by simp only [go_sem, ↓reduceIte, Nat.reduceEqDiff, t5, t8, hmn, d1, Bool.not_true]; rfl) in_lss) (by decide) ?_)
              (refine WI_val rfl wantB_none rfl (by simp only [go_sem, ↓reduceIte, Nat.reduceEqDiff, Nat.reduceAdd, t5, t8, hmn, d1, Bool.not_true]; rfl) (by decide) ?_)
              first | (refine WI_notV rfl (wantB_false rfl rfl (by simp only [go_sem, ↓reduceIte, Nat.reduceEqDiff, t5, t8, hmn, d1, Bool.not_true]; rfl) rfl) (by decide) ?_) | (refine WI_notV rfl (wantB_tup rfl rfl (by simp only [go_sem, ↓reduceIte, Nat.reduceEqDiff, t5, t8, hmn, d1, Bool.not_true]; rfl) rfl) (by decide) ?_) | (refine WI_val rfl (wantB_true rfl rfl (by simp only [go_sem, ↓reduceIte, Nat.reduceEqDiff, t5, t8, hmn, d1, Bool.not_true]; rfl) rfl) rfl (by simp only [go_sem, ↓reduceIte, Nat.reduceEqDiff, Nat.reduceAdd, t5, t8, hmn, d1, Bool.not_true]; rfl) (by decide) ?_)
              first | (refine WI_notV rfl (wantB_false rfl rfl (by simp only [go_sem, ↓reduceIte, Nat.reduceEqDiff, t5, t8, hmn, d1, Bool.not_true]; rfl) rfl) (by decide) ?_) | (refine WI_notV rfl (wantB_tup rfl rfl (by simp only [go_sem, ↓reduceIte, Nat.reduceEqDiff, t5, t8, hmn, d1, Bool.not_true]; rfl) rfl) (by decide) ?_) | (refine WI_ld rfl (wantB_true rfl rfl (by simp only [go_sem, ↓reduceIte, Nat.reduceEqDiff, t5, t8, hmn, d1, Bool.not_true]; rfl) rfl) (by simp only [go_sem, ↓reduceIte, Nat.reduceEqDiff, t5, t8, hmn, d1, Bool.not_true]; rfl) (by simp (disch := first | omega | simp) only [go_sem, ↓reduceIte, Nat.reduceEqDiff, Nat.reduceAdd, c9.row, rX]; rfl) (by (try simp only [cond_true, cond_false]); repeat (first | exact Off.nil | refine Off.seen rfl ?_ | refine Off.off (by omega) ?_)) (by decide) ?_)
              first | (refine WI_notV rfl (wantB_false rfl rfl (by simp only [go_sem, ↓reduceIte, Nat.reduceEqDiff, t5, t8, hmn, d1, Bool.not_true]; rfl) rfl) (by decide) ?_) | (refine WI_notV rfl (wantB_tup rfl rfl (by simp only [go_sem, ↓reduceIte, Nat.reduceEqDiff, t5, t8, hmn, d1, Bool.not_true]; rfl) rfl) (by decide) ?_) | (refine WI_val rfl (wantB_true rfl rfl (by simp only [go_sem, ↓reduceIte, Nat.reduceEqDiff, t5, t8, hmn, d1, Bool.not_true]; rfl) rfl) rfl (by simp only [go_sem, ↓reduceIte, Nat.reduceEqDiff, Nat.reduceAdd, t5, t8, hmn, d1, Bool.not_true]; rfl) (by decide) ?_)
              first | (refine WI_notV rfl (wantB_false rfl rfl (by simp only [go_sem, ↓reduceIte, Nat.reduceEqDiff, t5, t8, hmn, d1, Bool.not_true]; rfl) rfl) (by decide) ?_) | (refine WI_notV rfl (wantB_tup rfl rfl (by simp only [go_sem, ↓reduceIte, Nat.reduceEqDiff, t5, t8, hmn, d1, Bool.not_true]; rfl) rfl) (by decide) ?_) | (refine WI_ld rfl (wantB_true rfl rfl (by simp only [go_sem, ↓reduceIte, Nat.reduceEqDiff, t5, t8, hmn, d1, Bool.not_true]; rfl) rfl) (by simp only [go_sem, ↓reduceIte, Nat.reduceEqDiff, t5, t8, hmn, d1, Bool.not_true]; rfl) (by simp (disch := first | omega | simp) only [go_sem, ↓reduceIte, Nat.reduceEqDiff, Nat.reduceAdd, c9.row, rX]; rfl) (by (try simp only [cond_true, cond_false]); repeat (first | exact Off.nil | refine Off.seen rfl ?_ | refine Off.off (by omega) ?_)) (by decide) ?_)
              first | (refine WI_notV rfl (wantB_false rfl rfl (by simp only [go_sem, ↓reduceIte, Nat.reduceEqDiff, t5, t8, hmn, d1, Bool.not_true]; rfl) rfl) (by decide) ?_) | (refine WI_notV rfl (wantB_tup rfl rfl (by simp only [go_sem, ↓reduceIte, Nat.reduceEqDiff, t5, t8, hmn, d1, Bool.not_true]; rfl) rfl) (by decide) ?_) | (refine WI_val rfl (wantB_true rfl rfl (by simp only [go_sem, ↓reduceIte, Nat.reduceEqDiff, t5, t8, hmn, d1, Bool.not_true]; rfl) rfl) rfl (ex_bin (by simp only [go_sem, ↓reduceIte, Nat.reduceEqDiff, t5, t8, hmn, d1, Bool.not_true]; rfl) (by simp only [go_sem, ↓reduceIte, Nat.reduceEqDiff, t5, t8, hmn, d1, Bool.not_true]; rfl) in_geq) (by decide) ?_)
              iterate 3 (first | (refine WI_notV rfl (wantB_false rfl rfl (by simp only [go_sem, ↓reduceIte, Nat.reduceEqDiff, t5, t8, hmn, d1, Bool.not_true]; rfl) rfl) (by decide) ?_) | (refine WI_notV rfl (wantB_tup rfl rfl (by simp only [go_sem, ↓reduceIte, Nat.reduceEqDiff, t5, t8, hmn, d1, Bool.not_true]; rfl) rfl) (by decide) ?_) | (refine WI_val rfl (wantB_true rfl rfl (by simp only [go_sem, ↓reduceIte, Nat.reduceEqDiff, t5, t8, hmn, d1, Bool.not_true]; rfl) rfl) rfl (by simp only [go_sem, ↓reduceIte, Nat.reduceEqDiff, Nat.reduceAdd, t5, t8, hmn, d1, Bool.not_true]; rfl) (by decide) ?_))
              first | (refine WI_notV rfl (wantB_false rfl rfl (by simp only [go_sem, ↓reduceIte, Nat.reduceEqDiff, t5, t8, hmn, d1, Bool.not_true]; rfl) rfl) (by decide) ?_) | (refine WI_notV rfl (wantB_tup rfl rfl (by simp only [go_sem, ↓reduceIte, Nat.reduceEqDiff, t5, t8, hmn, d1, Bool.not_true]; rfl) rfl) (by decide) ?_) | (refine WI_val rfl (wantB_true rfl rfl (by simp only [go_sem, ↓reduceIte, Nat.reduceEqDiff, t5, t8, hmn, d1, Bool.not_true]; rfl) rfl) rfl (by simp (disch := first | omega | simp) only [go_sem, ↓reduceIte, Nat.reduceEqDiff, Nat.reduceAdd, t5, t8, hmn, d1, Bool.not_true]; rfl) (by decide) ?_)
              first | (refine WI_notV rfl (wantB_false rfl rfl (by simp only [go_sem, ↓reduceIte, Nat.reduceEqDiff, t5, t8, hmn, d1, Bool.not_true]; rfl) rfl) (by decide) ?_) | (refine WI_notV rfl (wantB_tup rfl rfl (by simp only [go_sem, ↓reduceIte, Nat.reduceEqDiff, t5, t8, hmn, d1, Bool.not_true]; rfl) rfl) (by decide) ?_) | (refine WI_ld rfl (wantB_true rfl rfl (by simp only [go_sem, ↓reduceIte, Nat.reduceEqDiff, t5, t8, hmn, d1, Bool.not_true]; rfl) rfl) (by simp only [go_sem, ↓reduceIte, Nat.reduceEqDiff, t5, t8, hmn, d1, Bool.not_true]; rfl) (by simp (disch := first | omega | simp) only [go_sem, ↓reduceIte, Nat.reduceEqDiff, Nat.reduceAdd, c9.row, rX]; rfl) (by (try simp only [cond_true, cond_false]); repeat (first | exact Off.nil | refine Off.seen rfl ?_ | refine Off.off (by omega) ?_)) (by decide) ?_)
              first | (refine WI_notV rfl (wantB_false rfl rfl (by simp only [go_sem, ↓reduceIte, Nat.reduceEqDiff, t5, t8, hmn, d1, Bool.not_true]; rfl) rfl) (by decide) ?_) | (refine WI_notV rfl (wantB_tup rfl rfl (by simp only [go_sem, ↓reduceIte, Nat.reduceEqDiff, t5, t8, hmn, d1, Bool.not_true]; rfl) rfl) (by decide) ?_) | (refine WI_val rfl (wantB_true rfl rfl (by simp only [go_sem, ↓reduceIte, Nat.reduceEqDiff, t5, t8, hmn, d1, Bool.not_true]; rfl) rfl) rfl (by simp only [go_sem, ↓reduceIte, Nat.reduceEqDiff, Nat.reduceAdd, t5, t8, hmn, d1, Bool.not_true]; rfl) (by decide) ?_)
              first | (refine WI_notV rfl (wantB_false rfl rfl (by simp only [go_sem, ↓reduceIte, Nat.reduceEqDiff, t5, t8, hmn, d1, Bool.not_true]; rfl) rfl) (by decide) ?_) | (refine WI_notV rfl (wantB_tup rfl rfl (by simp only [go_sem, ↓reduceIte, Nat.reduceEqDiff, t5, t8, hmn, d1, Bool.not_true]; rfl) rfl) (by decide) ?_) | (refine WI_ld rfl (wantB_true rfl rfl (by simp only [go_sem, ↓reduceIte, Nat.reduceEqDiff, t5, t8, hmn, d1, Bool.not_true]; rfl) rfl) (by simp only [go_sem, ↓reduceIte, Nat.reduceEqDiff, t5, t8, hmn, d1, Bool.not_true]; rfl) (by simp (disch := first | omega | simp) only [go_sem, ↓reduceIte, Nat.reduceEqDiff, Nat.reduceAdd, c9.row, rX]; rfl) (by (try simp only [cond_true, cond_false]); repeat (first | exact Off.nil | refine Off.seen rfl ?_ | refine Off.off (by omega) ?_)) (by decide) ?_)
              first | (refine WI_notV rfl (wantB_false rfl rfl (by simp only [go_sem, ↓reduceIte, Nat.reduceEqDiff, t5, t8, hmn, d1, Bool.not_true]; rfl) rfl) (by decide) ?_) | (refine WI_notV rfl (wantB_tup rfl rfl (by simp only [go_sem, ↓reduceIte, Nat.reduceEqDiff, t5, t8, hmn, d1, Bool.not_true]; rfl) rfl) (by decide) ?_) | (refine WI_val rfl (wantB_true rfl rfl (by simp only [go_sem, ↓reduceIte, Nat.reduceEqDiff, t5, t8, hmn, d1, Bool.not_true]; rfl) rfl) rfl (ex_bin (by simp only [go_sem, ↓reduceIte, Nat.reduceEqDiff, t5, t8, hmn, d1, Bool.not_true]; rfl) (by simp only [go_sem, ↓reduceIte, Nat.reduceEqDiff, t5, t8, hmn, d1, Bool.not_true]; rfl) in_gtr) (by decide) ?_)
              first | (refine WI_notV rfl (wantB_false rfl rfl (by simp only [go_sem, ↓reduceIte, Nat.reduceEqDiff, t5, t8, hmn, d1, Bool.not_true]; rfl) rfl) (by decide) ?_) | (refine WI_notV rfl (wantB_tup rfl rfl (by simp only [go_sem, ↓reduceIte, Nat.reduceEqDiff, t5, t8, hmn, d1, Bool.not_true]; rfl) rfl) (by decide) ?_) | (refine WI_val rfl (wantB_true rfl rfl (by simp only [go_sem, ↓reduceIte, Nat.reduceEqDiff, t5, t8, hmn, d1, Bool.not_true]; rfl) rfl) rfl (by simp only [go_sem, ↓reduceIte, Nat.reduceEqDiff, Nat.reduceAdd, t5, t8, hmn, d1, Bool.not_true]; rfl) (by decide) ?_)
              (refine WI_val rfl wantB_none rfl (by simp only [go_sem, ↓reduceIte, Nat.reduceEqDiff, Nat.reduceAdd, t5, t8, hmn, d1, Bool.not_true]; rfl) (by decide) ?_)
              exact WI_nil ⟨rfl, rfl, by (simp only [go_sem, ↓reduceIte, Nat.reduceEqDiff, t0] <;> first | rfl | simp), by (simp only [go_sem, ↓reduceIte, Nat.reduceEqDiff, t3] <;> first | rfl | simp), by (simp only [go_sem, ↓reduceIte, Nat.reduceEqDiff, t4] <;> first | rfl | simp), by (simp only [go_sem, ↓reduceIte, Nat.reduceEqDiff, t5] <;> first | rfl | simp), by (simp only [go_sem, ↓reduceIte, Nat.reduceEqDiff, t7] <;> first | rfl | simp), by (simp only [go_sem, ↓reduceIte, Nat.reduceEqDiff, t8] <;> first | rfl | simp), by (simp only [go_sem, ↓reduceIte, Nat.reduceEqDiff] <;> first | rfl | simp), by (simp only [go_sem, ↓reduceIte, Nat.reduceEqDiff] <;> first | rfl | simp)⟩
            · have d1 : decide (y.mx < y.mn) = false := decide_eq_false hm
              have d2 := hmx (by omega)
              refine W_drawn dr8_14 (by kernel_rfl) o9.floor ?_
              unfold dr8_14
              iterate 2 (refine WI_val rfl wantB_none rfl (by simp only [go_sem, ↓reduceIte, Nat.reduceEqDiff, Nat.reduceAdd, t5, t8, hmn, d1, d2, Bool.not_false]; rfl) (by decide) ?_)
              (refine WI_val rfl wantB_none rfl (by simp (disch := first | omega | simp) only [go_sem, ↓reduceIte, Nat.reduceEqDiff, Nat.reduceAdd, t5, t8, hmn, d1, d2, Bool.not_false]; rfl) (by decide) ?_)
              (refine WI_ld rfl wantB_none (by simp only [go_sem, ↓reduceIte, Nat.reduceEqDiff, t5, t8, hmn, d1, d2, Bool.not_false]; rfl) (by simp (disch := first | omega | simp) only [go_sem, ↓reduceIte, Nat.reduceEqDiff, Nat.reduceAdd, c9.row, rX]; rfl) (by (try simp only [cond_true, cond_false]); repeat (first | exact Off.nil | refine Off.seen rfl ?_ | refine Off.off (by omega) ?_)) (by decide) ?_)
              (refine WI_val rfl wantB_none rfl (by simp only [go_sem, ↓reduceIte, Nat.reduceEqDiff, Nat.reduceAdd, t5, t8, hmn, d1, d2, Bool.not_false]; rfl) (by decide) ?_)
              (refine WI_ld rfl wantB_none (by simp only [go_sem, ↓reduceIte, Nat.reduceEqDiff, t5, t8, hmn, d1, d2, Bool.not_false]; rfl) (by simp (disch := first | omega | simp) only [go_sem, ↓reduceIte, Nat.reduceEqDiff, Nat.reduceAdd, c9.row, rX]; rfl) (by (try simp only [cond_true, cond_false]); repeat (first | exact Off.nil | refine Off.seen rfl ?_ | refine Off.off (by omega) ?_)) (by decide) ?_)
              (refine WI_val rfl wantB_none rfl (ex_bin (by simp only [go_sem, ↓reduceIte, Nat.reduceEqDiff, t5, t8, hmn, d1, d2, Bool.not_false]; rfl) (by simp only [go_sem, ↓reduceIte, Nat.reduceEqDiff, t5, t8, hmn, d1, d2, Bool.not_false]; rfl) in_lss) (by decide) ?_)
              (refine WI_val rfl wantB_none rfl (by simp only [go_sem, ↓reduceIte, Nat.reduceEqDiff, Nat.reduceAdd, t5, t8, hmn, d1, d2, Bool.not_false]; rfl) (by decide) ?_)
              first | (refine WI_notV rfl (wantB_false rfl rfl (by simp only [go_sem, ↓reduceIte, Nat.reduceEqDiff, t5, t8, hmn, d1, d2, Bool.not_false]; rfl) rfl) (by decide) ?_) | (refine WI_notV rfl (wantB_tup rfl rfl (by simp only [go_sem, ↓reduceIte, Nat.reduceEqDiff, t5, t8, hmn, d1, d2, Bool.not_false]; rfl) rfl) (by decide) ?_) | (refine WI_val rfl (wantB_true rfl rfl (by simp only [go_sem, ↓reduceIte, Nat.reduceEqDiff, t5, t8, hmn, d1, d2, Bool.not_false]; rfl) rfl) rfl (by simp only [go_sem, ↓reduceIte, Nat.reduceEqDiff, Nat.reduceAdd, t5, t8, hmn, d1, d2, Bool.not_false]; rfl) (by decide) ?_)
              first | (refine WI_notV rfl (wantB_false rfl rfl (by simp only [go_sem, ↓reduceIte, Nat.reduceEqDiff, t5, t8, hmn, d1, d2, Bool.not_false]; rfl) rfl) (by decide) ?_) | (refine WI_notV rfl (wantB_tup rfl rfl (by simp only [go_sem, ↓reduceIte, Nat.reduceEqDiff, t5, t8, hmn, d1, d2, Bool.not_false]; rfl) rfl) (by decide) ?_) | (refine WI_ld rfl (wantB_true rfl rfl (by simp only [go_sem, ↓reduceIte, Nat.reduceEqDiff, t5, t8, hmn, d1, d2, Bool.not_false]; rfl) rfl) (by simp only [go_sem, ↓reduceIte, Nat.reduceEqDiff, t5, t8, hmn, d1, d2, Bool.not_false]; rfl) (by simp (disch := first | omega | simp) only [go_sem, ↓reduceIte, Nat.reduceEqDiff, Nat.reduceAdd, c9.row, rX]; rfl) (by (try simp only [cond_true, cond_false]); repeat (first | exact Off.nil | refine Off.seen rfl ?_ | refine Off.off (by omega) ?_)) (by decide) ?_)
              first | (refine WI_notV rfl (wantB_false rfl rfl (by simp only [go_sem, ↓reduceIte, Nat.reduceEqDiff, t5, t8, hmn, d1, d2, Bool.not_false]; rfl) rfl) (by decide) ?_) | (refine WI_notV rfl (wantB_tup rfl rfl (by simp only [go_sem, ↓reduceIte, Nat.reduceEqDiff, t5, t8, hmn, d1, d2, Bool.not_false]; rfl) rfl) (by decide) ?_) | (refine WI_val rfl (wantB_true rfl rfl (by simp only [go_sem, ↓reduceIte, Nat.reduceEqDiff, t5, t8, hmn, d1, d2, Bool.not_false]; rfl) rfl) rfl (by simp only [go_sem, ↓reduceIte, Nat.reduceEqDiff, Nat.reduceAdd, t5, t8, hmn, d1, d2, Bool.not_false]; rfl) (by decide) ?_)
              first | (refine WI_notV rfl (wantB_false rfl rfl (by simp only [go_sem, ↓reduceIte, Nat.reduceEqDiff, t5, t8, hmn, d1, d2, Bool.not_false]; rfl) rfl) (by decide) ?_) | (refine WI_notV rfl (wantB_tup rfl rfl (by simp only [go_sem, ↓reduceIte, Nat.reduceEqDiff, t5, t8, hmn, d1, d2, Bool.not_false]; rfl) rfl) (by decide) ?_) | (refine WI_ld rfl (wantB_true rfl rfl (by simp only [go_sem, ↓reduceIte, Nat.reduceEqDiff, t5, t8, hmn, d1, d2, Bool.not_false]; rfl) rfl) (by simp only [go_sem, ↓reduceIte, Nat.reduceEqDiff, t5, t8, hmn, d1, d2, Bool.not_false]; rfl) (by simp (disch := first | omega | simp) only [go_sem, ↓reduceIte, Nat.reduceEqDiff, Nat.reduceAdd, c9.row, rX]; rfl) (by (try simp only [cond_true, cond_false]); repeat (first | exact Off.nil | refine Off.seen rfl ?_ | refine Off.off (by omega) ?_)) (by decide) ?_)
              first | (refine WI_notV rfl (wantB_false rfl rfl (by simp only [go_sem, ↓reduceIte, Nat.reduceEqDiff, t5, t8, hmn, d1, d2, Bool.not_false]; rfl) rfl) (by decide) ?_) | (refine WI_notV rfl (wantB_tup rfl rfl (by simp only [go_sem, ↓reduceIte, Nat.reduceEqDiff, t5, t8, hmn, d1, d2, Bool.not_false]; rfl) rfl) (by decide) ?_) | (refine WI_val rfl (wantB_true rfl rfl (by simp only [go_sem, ↓reduceIte, Nat.reduceEqDiff, t5, t8, hmn, d1, d2, Bool.not_false]; rfl) rfl) rfl (ex_bin (by simp only [go_sem, ↓reduceIte, Nat.reduceEqDiff, t5, t8, hmn, d1, d2, Bool.not_false]; rfl) (by simp only [go_sem, ↓reduceIte, Nat.reduceEqDiff, t5, t8, hmn, d1, d2, Bool.not_false]; rfl) in_geq) (by decide) ?_)
              iterate 3 (first | (refine WI_notV rfl (wantB_false rfl rfl (by simp only [go_sem, ↓reduceIte, Nat.reduceEqDiff, t5, t8, hmn, d1, d2, Bool.not_false]; rfl) rfl) (by decide) ?_) | (refine WI_notV rfl (wantB_tup rfl rfl (by simp only [go_sem, ↓reduceIte, Nat.reduceEqDiff, t5, t8, hmn, d1, d2, Bool.not_false]; rfl) rfl) (by decide) ?_) | (refine WI_val rfl (wantB_true rfl rfl (by simp only [go_sem, ↓reduceIte, Nat.reduceEqDiff, t5, t8, hmn, d1, d2, Bool.not_false]; rfl) rfl) rfl (by simp only [go_sem, ↓reduceIte, Nat.reduceEqDiff, Nat.reduceAdd, t5, t8, hmn, d1, d2, Bool.not_false]; rfl) (by decide) ?_))
              first | (refine WI_notV rfl (wantB_false rfl rfl (by simp only [go_sem, ↓reduceIte, Nat.reduceEqDiff, t5, t8, hmn, d1, d2, Bool.not_false]; rfl) rfl) (by decide) ?_) | (refine WI_notV rfl (wantB_tup rfl rfl (by simp only [go_sem, ↓reduceIte, Nat.reduceEqDiff, t5, t8, hmn, d1, d2, Bool.not_false]; rfl) rfl) (by decide) ?_) | (refine WI_val rfl (wantB_true rfl rfl (by simp only [go_sem, ↓reduceIte, Nat.reduceEqDiff, t5, t8, hmn, d1, d2, Bool.not_false]; rfl) rfl) rfl (by simp (disch := first | omega | simp) only [go_sem, ↓reduceIte, Nat.reduceEqDiff, Nat.reduceAdd, t5, t8, hmn, d1, d2, Bool.not_false]; rfl) (by decide) ?_)
              first | (refine WI_notV rfl (wantB_false rfl rfl (by simp only [go_sem, ↓reduceIte, Nat.reduceEqDiff, t5, t8, hmn, d1, d2, Bool.not_false]; rfl) rfl) (by decide) ?_) | (refine WI_notV rfl (wantB_tup rfl rfl (by simp only [go_sem, ↓reduceIte, Nat.reduceEqDiff, t5, t8, hmn, d1, d2, Bool.not_false]; rfl) rfl) (by decide) ?_) | (refine WI_ld rfl (wantB_true rfl rfl (by simp only [go_sem, ↓reduceIte, Nat.reduceEqDiff, t5, t8, hmn, d1, d2, Bool.not_false]; rfl) rfl) (by simp only [go_sem, ↓reduceIte, Nat.reduceEqDiff, t5, t8, hmn, d1, d2, Bool.not_false]; rfl) (by simp (disch := first | omega | simp) only [go_sem, ↓reduceIte, Nat.reduceEqDiff, Nat.reduceAdd, c9.row, rX]; rfl) (by (try simp only [cond_true, cond_false]); repeat (first | exact Off.nil | refine Off.seen rfl ?_ | refine Off.off (by omega) ?_)) (by decide) ?_)
              first | (refine WI_notV rfl (wantB_false rfl rfl (by simp only [go_sem, ↓reduceIte, Nat.reduceEqDiff, t5, t8, hmn, d1, d2, Bool.not_false]; rfl) rfl) (by decide) ?_) | (refine WI_notV rfl (wantB_tup rfl rfl (by simp only [go_sem, ↓reduceIte, Nat.reduceEqDiff, t5, t8, hmn, d1, d2, Bool.not_false]; rfl) rfl) (by decide) ?_) | (refine WI_val rfl (wantB_true rfl rfl (by simp only [go_sem, ↓reduceIte, Nat.reduceEqDiff, t5, t8, hmn, d1, d2, Bool.not_false]; rfl) rfl) rfl (by simp only [go_sem, ↓reduceIte, Nat.reduceEqDiff, Nat.reduceAdd, t5, t8, hmn, d1, d2, Bool.not_false]; rfl) (by decide) ?_)
              first | (refine WI_notV rfl (wantB_false rfl rfl (by simp only [go_sem, ↓reduceIte, Nat.reduceEqDiff, t5, t8, hmn, d1, d2, Bool.not_false]; rfl) rfl) (by decide) ?_) | (refine WI_notV rfl (wantB_tup rfl rfl (by simp only [go_sem, ↓reduceIte, Nat.reduceEqDiff, t5, t8, hmn, d1, d2, Bool.not_false]; rfl) rfl) (by decide) ?_) | (refine WI_ld rfl (wantB_true rfl rfl (by simp only [go_sem, ↓reduceIte, Nat.reduceEqDiff, t5, t8, hmn, d1, d2, Bool.not_false]; rfl) rfl) (by simp only [go_sem, ↓reduceIte, Nat.reduceEqDiff, t5, t8, hmn, d1, d2, Bool.not_false]; rfl) (by simp (disch := first | omega | simp) only [go_sem, ↓reduceIte, Nat.reduceEqDiff, Nat.reduceAdd, c9.row, rX]; rfl) (by (try simp only [cond_true, cond_false]); repeat (first | exact Off.nil | refine Off.seen rfl ?_ | refine Off.off (by omega) ?_)) (by decide) ?_)
              first | (refine WI_notV rfl (wantB_false rfl rfl (by simp only [go_sem, ↓reduceIte, Nat.reduceEqDiff, t5, t8, hmn, d1, d2, Bool.not_false]; rfl) rfl) (by decide) ?_) | (refine WI_notV rfl (wantB_tup rfl rfl (by simp only [go_sem, ↓reduceIte, Nat.reduceEqDiff, t5, t8, hmn, d1, d2, Bool.not_false]; rfl) rfl) (by decide) ?_) | (refine WI_val rfl (wantB_true rfl rfl (by simp only [go_sem, ↓reduceIte, Nat.reduceEqDiff, t5, t8, hmn, d1, d2, Bool.not_false]; rfl) rfl) rfl (ex_bin (by simp only [go_sem, ↓reduceIte, Nat.reduceEqDiff, t5, t8, hmn, d1, d2, Bool.not_false]; rfl) (by simp only [go_sem, ↓reduceIte, Nat.reduceEqDiff, t5, t8, hmn, d1, d2, Bool.not_false]; rfl) in_gtr) (by decide) ?_)
              first | (refine WI_notV rfl (wantB_false rfl rfl (by simp only [go_sem, ↓reduceIte, Nat.reduceEqDiff, t5, t8, hmn, d1, d2, Bool.not_false]; rfl) rfl) (by decide) ?_) | (refine WI_notV rfl (wantB_tup rfl rfl (by simp only [go_sem, ↓reduceIte, Nat.reduceEqDiff, t5, t8, hmn, d1, d2, Bool.not_false]; rfl) rfl) (by decide) ?_) | (refine WI_val rfl (wantB_true rfl rfl (by simp only [go_sem, ↓reduceIte, Nat.reduceEqDiff, t5, t8, hmn, d1, d2, Bool.not_false]; rfl) rfl) rfl (by simp only [go_sem, ↓reduceIte, Nat.reduceEqDiff, Nat.reduceAdd, t5, t8, hmn, d1, d2, Bool.not_false]; rfl) (by decide) ?_)
              (refine WI_val rfl wantB_none rfl (by simp only [go_sem, ↓reduceIte, Nat.reduceEqDiff, Nat.reduceAdd, t5, t8, hmn, d1, d2, Bool.not_false]; rfl) (by decide) ?_)
              exact WI_nil ⟨rfl, rfl, by (simp only [go_sem, ↓reduceIte, Nat.reduceEqDiff, t0] <;> first | rfl | simp), by (simp only [go_sem, ↓reduceIte, Nat.reduceEqDiff, t3] <;> first | rfl | simp), by (simp only [go_sem, ↓reduceIte, Nat.reduceEqDiff, t4] <;> first | rfl | simp), by (simp only [go_sem, ↓reduceIte, Nat.reduceEqDiff, t5] <;> first | rfl | simp), by (simp only [go_sem, ↓reduceIte, Nat.reduceEqDiff, t7] <;> first | rfl | simp), by (simp only [go_sem, ↓reduceIte, Nat.reduceEqDiff, t8] <;> first | rfl | simp), by (simp only [go_sem, ↓reduceIte, Nat.reduceEqDiff] <;> first | rfl | simp), by (simp only [go_sem, ↓reduceIte, Nat.reduceEqDiff] <;> first | rfl | simp)⟩
          clear t0 t3 t4 t5 t7 t8
          rintro T3 h9 ⟨rfl, t0, t3, t4, t5, t7, t8, t9, t78⟩
          refine W_cond (by (simp only [go_sem, ↓reduceIte, Nat.reduceEqDiff, t78] <;> rfl)) (fun hc => by cases hc) (fun _ => W_skip ?_)
          (repeat refine W_seq ?_); refine W_region ?_
          (refine WO_val (by simp only [go_sem, ↓reduceIte, Nat.reduceEqDiff, Nat.reduceAdd, t9]; rfl) (by decide) ?_)
          refine WO_store1 (by (simp only [go_sem, ↓reduceIte, Nat.reduceEqDiff] <;> rfl)) (by (simp only [go_sem, ↓reduceIte, Nat.reduceEqDiff] <;> rfl)) sz3 c9 m9 (by simp) fun h10 p10 => ?_
          have c10 := p10.cells
          simp only [List.take_succ_cons, List.take_zero, List.cons_append, List.nil_append, List.drop_succ_cons, List.drop_zero, Nat.reduceAdd, Nat.zero_add] at c10
          have m10 : h10.may h7.next = true := by rw [p10.up.may]; exact m9
          have o10 := p10.ok o9
          have e10 := p10.next
          (refine WO_val (by simp only [go_sem, ↓reduceIte, Nat.reduceEqDiff, Nat.reduceAdd, t9]; rfl) (by decide) ?_)
          refine WO_store1 (by (simp only [go_sem, ↓reduceIte, Nat.reduceEqDiff] <;> rfl)) (by (simp only [go_sem, ↓reduceIte, Nat.reduceEqDiff] <;> rfl)) sz3 c10 m10 (by simp) fun h11 p11 => ?_
          have c11 := p11.cells
          simp only [List.take_succ_cons, List.take_zero, List.cons_append, List.nil_append, List.drop_succ_cons, List.drop_zero, Nat.reduceAdd, Nat.zero_add] at c11
          have o11 := p11.ok o10
          have e11 := p11.next
          refine WO_nil ?_; (repeat refine W_seq ?_)
          refine W_region ?_
          (refine WO_val (by simp only [go_sem, ↓reduceIte, Nat.reduceEqDiff, Nat.reduceAdd, t7, t9]; rfl) (by decide) ?_)
          (refine WO_val (by simp (disch := first | omega | simp) only [go_sem, ↓reduceIte, Nat.reduceEqDiff, Nat.reduceAdd, c11.row, t7, t9]; rfl) (by decide) ?_)
          refine WO_bsN wantB_none el39 zb46 (by simp only [evParts, go_sem, ↓reduceIte, Nat.reduceEqDiff, t9]; rfl) rfl (cells := y.still.cells) rfl o11 (by decide) fun h12 n12 => ?_
          have e12 := n12.next
          have u12 : Up (· < h7.next) h7 h12 := u9.trans ((p10.up.mono fun b hb => by omega).trans ((p11.up.mono fun b hb => by omega).trans (n12.up.mono fun b hb => by omega)))
          have g12 := g7.up u12 fun q hq => (g7.lt hq).2
          refine WO_app (n0 := h6.next) ap39_39 (by (simp only [go_sem, ↓reduceIte, Nat.reduceEqDiff, t7] <;> rfl)) (by (simp only [go_sem, ↓reduceIte, Nat.reduceEqDiff] <;> rfl)) n12.cells rfl g12 n12.ok (by omega) (m := k2) (by rw [citems_length]; simp; omega) (by have := lok.len; omega) (by have := lok.len; omega) (by decide) fun w13 h13 g13 => ?_
          (refine WO_val (by simp only [go_sem, ↓reduceIte, Nat.reduceEqDiff, Nat.reduceAdd]; rfl) (by decide) ?_)
          refine WO_nil ?_; (repeat refine W_seq ?_)
          refine W_region ?_
          (refine WO_val (by simp only [go_sem, ↓reduceIte, Nat.reduceEqDiff, Nat.reduceAdd, t8]; rfl) (by decide) ?_)
          (refine WO_val (ex_bin (by simp only [go_sem, ↓reduceIte, Nat.reduceEqDiff, t8]; rfl) (by simp only [go_sem, ↓reduceIte, Nat.reduceEqDiff, t8]; rfl) in_add) (by decide) ?_; (try rw [wrap_id (by omega) (by omega)]))
          (refine WO_val (by simp only [go_sem, ↓reduceIte, Nat.reduceEqDiff, Nat.reduceAdd, t8]; rfl) (by decide) ?_)
          refine WO_nil ⟨L.length - (k2 + 1), by omega, k2 + 1, w13, rfl, hlt2, by (simp only [go_sem, ↓reduceIte, Nat.reduceEqDiff, t0] <;> first | rfl | simp), by (simp only [go_sem, ↓reduceIte, Nat.reduceEqDiff, t3] <;> first | rfl | simp), by (simp only [go_sem, ↓reduceIte, Nat.reduceEqDiff, t4] <;> first | rfl | simp), by (simp only [go_sem, ↓reduceIte, Nat.reduceEqDiff, t5] <;> first | rfl | simp), by (simp only [go_sem, ↓reduceIte, Nat.reduceEqDiff] <;> first | rfl | simp), by (simp only [go_sem, ↓reduceIte, Nat.reduceEqDiff] <;> first | rfl | simp), g13.grown.same ?_, (u7.trans (u12.mono fun b hb => by omega)).trans (g13.below g12 (by omega)), g13.ok⟩
          obtain ⟨hi, hyy⟩ := List.getElem?_eq_some_iff.1 hy
          rw [List.take_succ_eq_append_getElem hi, List.map_append, citems_append, hyy]
          rfl
        · have hge2 : ¬ (k2 : Int) < (L.length : Int) := by rw [nums_length, hXl] at hge2; simpa using hge2
          have hk2 : k2 = L.length := by omega
          rw [hk2, List.take_length] at g7
          exact ⟨fun _ => ⟨rfl, w7, t0, t3, t4, t7, g7, u7, o7⟩, fun hne => absurd rfl hne⟩
      clear t0 t3 t19
      rintro T2 h7 ⟨w7, t0, t3, t4, t7, g7, u7, o7⟩
      have hn7 := u7.next
      have c7 := u7.cells (show h1.next < h6.next by omega) c6
      have lok' := still_ok lok
      (repeat refine W_seq ?_); refine W_region ?_
      iterate 2 (refine WO_val (by simp only [go_sem, ↓reduceIte, Nat.reduceEqDiff, Nat.reduceAdd, t4, t7]; rfl) (by decide) ?_)
      (refine WO_val (by simp (disch := first | omega | simp) only [go_sem, ↓reduceIte, Nat.reduceEqDiff, Nat.reduceAdd, c7.row, t4, t7]; rfl) (by decide) ?_)
      (refine WO_val (by simp only [go_sem, ↓reduceIte, Nat.reduceEqDiff, Nat.reduceAdd, t4, t7]; rfl) (by decide) ?_)
      (refine WO_val (by simp (disch := first | omega | simp) only [go_sem, ↓reduceIte, Nat.reduceEqDiff, Nat.reduceAdd, c7.row, t4, t7]; rfl) (by decide) ?_)
      refine WO_fn (by (simp only [go_sem, ↓reduceIte, Nat.reduceEqDiff, t7] <;> rfl)) (by simp) (by decide) ((resolve_fn hs hs1 hs2 o7 g7.items).mono ?_)
      rintro r h8 ⟨x8, rfl, g8, u8, o8⟩
      have hr8 : resOk (L.map Itm.still) gap room = true := resOk_iff.2 lok'
      rw [hr8, if_pos rfl, still_solve] at g8
      simp only [hr8, if_true]
      iterate 5 (refine WO_val (by simp only [go_sem, ↓reduceIte, Nat.reduceEqDiff, Nat.reduceAdd]; rfl) (by decide) ?_)
      refine WO_nil ?_; (repeat refine W_seq ?_)
      refine W_region ?_
      (refine WO_val (by simp only [go_sem, ↓reduceIte, Nat.reduceEqDiff, Nat.reduceAdd]; rfl) (by decide) ?_)
      refine WO_fn (by (simp only [go_sem, ↓reduceIte, Nat.reduceEqDiff] <;> rfl)) (by simp) (by decide) ((num_fn hs3).mono ?_)
      rintro r h8 ⟨rfl, rfl⟩
      (refine WO_val (ex_bin (by simp only [go_sem, ↓reduceIte, Nat.reduceEqDiff, t7]; rfl) (by simp only [go_sem, ↓reduceIte, Nat.reduceEqDiff, t7]; rfl) in_neq) (by decide) ?_)
      (refine WO_val (by simp only [go_sem, ↓reduceIte, Nat.reduceEqDiff, Nat.reduceAdd, t7]; rfl) (by decide) ?_)
      iterate 2 (first | (refine WO_notG (wantB_false rfl rfl (by simp only [go_sem, ↓reduceIte, Nat.reduceEqDiff, t7]; rfl) rfl) (by decide) ?_) | (refine WO_notG (wantB_tup rfl rfl (by simp only [go_sem, ↓reduceIte, Nat.reduceEqDiff, t7]; rfl) rfl) (by decide) ?_) | (refine WO_valG (wantB_true rfl rfl (by simp only [go_sem, ↓reduceIte, Nat.reduceEqDiff, t7]; rfl) rfl) (by simp only [go_sem, ↓reduceIte, Nat.reduceEqDiff, Nat.reduceAdd, t7]; rfl) (by decide) ?_))
      refine WO_fnG (wantB_true rfl rfl (by simp only [go_sem, ↓reduceIte, Nat.reduceEqDiff]; rfl) rfl) (by (simp only [go_sem, ↓reduceIte, Nat.reduceEqDiff, t7] <;> rfl)) (by simp) (by decide) ((refplains_fn hs3 o8 (g7.items.upLt u8) (by have := lok'.len; omega)).mono ?_)
      rintro r h9 ⟨x9, rfl, g9, u9, o9⟩
      refine WO_fnG (wantB_true rfl rfl (by simp only [go_sem, ↓reduceIte, Nat.reduceEqDiff]; rfl) rfl) (by (simp only [go_sem, ↓reduceIte, Nat.reduceEqDiff, t7] <;> rfl)) g8.pair (by decide) ((eq_fn hs3 o9 (g8.ints.upLt u9) g9.ints (by have := lok.len; simp [plains]; omega)).mono ?_)
      rintro r h9 ⟨rfl, rfl⟩
      first | (refine WO_notG (wantB_false rfl rfl (by simp only [go_sem, ↓reduceIte, Nat.reduceEqDiff]; rfl) rfl) (by decide) ?_) | (refine WO_notG (wantB_tup rfl rfl (by simp only [go_sem, ↓reduceIte, Nat.reduceEqDiff]; rfl) rfl) (by decide) ?_) | (refine WO_valG (wantB_true rfl rfl (by simp only [go_sem, ↓reduceIte, Nat.reduceEqDiff]; rfl) rfl) (ex_not (by simp only [go_sem, ↓reduceIte, Nat.reduceEqDiff]; rfl)) (by decide) ?_)
      (refine WO_val (by simp only [go_sem, ↓reduceIte, Nat.reduceEqDiff, Nat.reduceAdd]; rfl) (by decide) ?_)
      refine WO_nil ?_; (repeat refine W_seq ?_)
      refine W_cond (by (simp only [go_sem, ↓reduceIte, Nat.reduceEqDiff] <;> rfl)) (fun hc => by simp at hc) (fun _ => W_skip ?_)
      have hn8 := u8.next
      exact ⟨rfl, by (simp only [go_sem, ↓reduceIte, Nat.reduceEqDiff, t0] <;> first | rfl | simp), by (simp only [go_sem, ↓reduceIte, Nat.reduceEqDiff, t3] <;> first | rfl | simp), u16.trans ((u7.mono fun b hb => by have := u16.next; omega).trans ((u8.mono fun b hb => by have := u16.next; omega).trans (u9.mono fun b hb => by have := u16.next; omega))), o9⟩
    rintro T2 h3 ⟨t0, t3, u3, o3⟩
    (repeat refine W_seq ?_); refine W_region ?_
    (refine WO_val (by simp only [go_sem, ↓reduceIte, Nat.reduceEqDiff, Nat.reduceAdd, t3]; rfl) (by decide) ?_)
    (refine WO_val (ex_bin (by simp only [go_sem, ↓reduceIte, Nat.reduceEqDiff, t3]; rfl) (by simp only [go_sem, ↓reduceIte, Nat.reduceEqDiff, t3]; rfl) in_add) (by decide) ?_; (try rw [wrap_id (by omega) (by omega)]))
    (refine WO_val (by simp only [go_sem, ↓reduceIte, Nat.reduceEqDiff, Nat.reduceAdd, t3]; rfl) (by decide) ?_)
    exact WO_nil ⟨10 - (k + 1), by omega, k + 1, rfl, by omega, by (simp only [go_sem, ↓reduceIte, Nat.reduceEqDiff, t0] <;> first | rfl | simp), by (simp only [go_sem, ↓reduceIte, Nat.reduceEqDiff] <;> first | rfl | simp), u3, o3⟩
  · refine ⟨fun _ => ?_, fun hne => absurd rfl hne⟩
    (repeat refine W_seq ?_); refine W_region ?_
    refine WO_fn (by (simp only [go_sem, ↓reduceIte, Nat.reduceEqDiff] <;> rfl)) (by simp) (by decide) ((coord_fn hs3).mono ?_)
    rintro r h3 ⟨rfl, rfl⟩
    (refine WO_val (by simp only [go_sem, ↓reduceIte, Nat.reduceEqDiff, Nat.reduceAdd]; rfl) (by decide) ?_)
    refine WO_fnG (wantB_true rfl rfl (by simp only [go_sem, ↓reduceIte, Nat.reduceEqDiff]; rfl) rfl) (by (simp only [go_sem, ↓reduceIte, Nat.reduceEqDiff] <;> rfl)) (by simp) (by decide) ((wakes_fn hs hs1 hs2 hs3 o1).mono ?_)
    rintro r h3 ⟨rfl, u3, o3⟩
    iterate 2 (refine WO_val (by simp only [go_sem, ↓reduceIte, Nat.reduceEqDiff, Nat.reduceAdd]; rfl) (by decide) ?_)
    exact WO_nil (W_ret ⟨.inr rfl, _, by (simp only [resultB, resB, parts, V.part, Sl.get_set', ↓reduceIte, Nat.reduceEqDiff] <;> rfl), rfl⟩)
end Go.Ai
