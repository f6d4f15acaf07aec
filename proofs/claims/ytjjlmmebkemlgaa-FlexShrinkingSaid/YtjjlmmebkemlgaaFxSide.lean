/-
The laws FlexGrowing and FlexShrinking, by the machine.
-/
import Derived.Test.YtjjlmmebkemlgaaFxRefR
import Derived.Test.YtjjlmmebkemlgaaFxWithin
set_option linter.unusedVariables false
set_option linter.unusedSimpArgs false
namespace Go.Ai
open Go.Proofs

theorem sum_nn {gap : Int} (hg : 0 ≤ gap) : ∀ (l : List Int) (p : Bool × Int), (∀ x ∈ l, 0 ≤ x) → 0 ≤ p.2 → 0 ≤ (l.foldl (lineF gap) p).2
  | [], p, _, h => h
  | x :: l, p, hl, h => by
    have hx := hl x (by simp)
    refine sum_nn hg l _ (fun y hy => hl y (by simp [hy])) ?_
    unfold lineF satI
    split <;> omega
set_option maxHeartbeats 0 in
theorem side_fn {spec : CallF} (hs : SpecRes spec) (hs1 : SpecFlex spec) (hs2 : SpecSort spec) (hs3 : SpecEq spec) (hs4 : SpecRef spec) (hs29 : ∀ args h, spec 29 args h = none) (hs21 : ∀ args h, spec 21 args h = none) {h : H} {v : S} {A : List Ask} {grow : Bool} (ok : Ok h) (hA : AsksAt h v A) :
    WF Try.prog spec 29 [.one v, .one (.b grow)] h fun r h1 => r = .one (.b true) := by
  refine WF_of Try.func29 rfl (hs29 _ _) (by rw [Try.ntmps29]; simp) (by rw [Try.ntmps29]; decide) ?_
  rw [Try.ntmps29, Try.results29]
  simp only [Sl.setMany_cons, Sl.setMany_nil, Nat.zero_add, Nat.reduceAdd]
  (repeat refine W_seq ?_); refine W_region ?_
  (refine VO ?_)
  refine WO_nil ?_; (repeat refine W_seq ?_)
  refine W_region ?_
  (refine VO ?_)
  refine WO_nil ?_; (repeat refine W_seq ?_)
  refine W_block (W_rounds (fun j T h1 => ∃ k, j = 10 - k ∧ k ≤ 10 ∧ T.get 0 = some (.one v) ∧ T.get 1 = some (.one (.b grow)) ∧ T.get 5 = some (.one (.i .i64 (k : Int))) ∧ Up (· < h.next) h h1 ∧ Ok h1) ?_ 10 _ _ ⟨0, rfl, by omega, gs, gs, gs, .refl _ _, ok⟩)
  rintro j T h1 ⟨k, rfl, hk, t0, t1, t5, u1, o1⟩
  have hn1 := u1.next
  repeat refine W_seq ?_
  refine W_cut (fun T1 h2 => h2 = h1 ∧ T1.get 0 = some (.one v) ∧ T1.get 1 = some (.one (.b grow)) ∧ T1.get 5 = some (.one (.i .i64 (k : Int))) ∧ T1.get 18 = some (.one (.b (decide ((k : Int) < (A.length : Int)) && decide ((k : Int) < 10))))) ?_ ?_
  · refine W_region ?_
    iterate 2 (refine VX (by simp only [go_sem, ↓reduceIte, Nat.reduceEqDiff, Nat.reduceAdd, t0, t5]; rfl) ?_)
    refine WO_val (hA.len (ee)) (by decide) ?_
    (refine VX (ex_bin (by simp only [go_sem, ↓reduceIte, Nat.reduceEqDiff, t0, t5]; rfl) (by simp only [go_sem, ↓reduceIte, Nat.reduceEqDiff, t0, t5]; rfl) in_lss) ?_)
    (refine VX (by simp only [go_sem, ↓reduceIte, Nat.reduceEqDiff, Nat.reduceAdd, t0, t5]; rfl) ?_)
    refine WO_grd rfl rfl (by simp only [go_sem, ↓reduceIte, Nat.reduceEqDiff, t0, t5]; rfl) (fun c1 => ?_) (fun c1 => ?_)
    · (refine VG (wantB_true rfl rfl (by simp only [go_sem, ↓reduceIte, Nat.reduceEqDiff, t0, t5, c1]; rfl) rfl) (by simp only [go_sem, ↓reduceIte, Nat.reduceEqDiff, Nat.reduceAdd, t0, t5, c1]; rfl) ?_)
      (refine VG (wantB_true rfl rfl (by simp only [go_sem, ↓reduceIte, Nat.reduceEqDiff, t0, t5, c1]; rfl) rfl) (ex_bin (by simp only [go_sem, ↓reduceIte, Nat.reduceEqDiff, t0, t5, c1]; rfl) (by simp only [go_sem, ↓reduceIte, Nat.reduceEqDiff, t0, t5, c1]; rfl) in_lss) ?_)
      (refine VX (by simp only [go_sem, ↓reduceIte, Nat.reduceEqDiff, Nat.reduceAdd, t0, t5, c1]; rfl) ?_)
      refine WO_nil ⟨rfl, rfl, by (simp only [go_sem, ↓reduceIte, Nat.reduceEqDiff, t0, c1] <;> first | rfl | simp), by (simp only [go_sem, ↓reduceIte, Nat.reduceEqDiff, t1, c1] <;> first | rfl | simp), by (simp only [go_sem, ↓reduceIte, Nat.reduceEqDiff, t5, c1] <;> first | rfl | simp), ?_⟩
      simp only [go_sem, ↓reduceIte, Nat.reduceEqDiff, c1]
      simp [c1]
    · refine VN (wantB_no rfl rfl (by simp only [go_sem, ↓reduceIte, Nat.reduceEqDiff, t0, t5, c1]; rfl) rfl) ?_
      refine VN (wantB_no rfl rfl (by simp only [go_sem, ↓reduceIte, Nat.reduceEqDiff, t0, t5, c1]; rfl) rfl) ?_
      (refine VX (by simp only [go_sem, ↓reduceIte, Nat.reduceEqDiff, Nat.reduceAdd, t0, t5, c1]; rfl) ?_)
      refine WO_nil ⟨rfl, rfl, by (simp only [go_sem, ↓reduceIte, Nat.reduceEqDiff, t0, c1] <;> first | rfl | simp), by (simp only [go_sem, ↓reduceIte, Nat.reduceEqDiff, t1, c1] <;> first | rfl | simp), by (simp only [go_sem, ↓reduceIte, Nat.reduceEqDiff, t5, c1] <;> first | rfl | simp), ?_⟩
      simp only [go_sem, ↓reduceIte, Nat.reduceEqDiff, c1]
      simp [c1]
  clear t0 t1 t5
  rintro T1 h1 ⟨rfl, t0, t1, t5, t18⟩
  refine W_cond (by (simp only [go_sem, ↓reduceIte, Nat.reduceEqDiff, t18] <;> rfl)) (fun hlt => W_skip ?_) (fun hge => W_exit ?_)
  · have hlt : k < A.length ∧ k < 10 := by simp at hlt; omega
    obtain ⟨a, ha⟩ : ∃ a, A[k]? = some a := ⟨_, List.getElem?_eq_getElem hlt.1⟩
    obtain ⟨b, c, rfl, hbn, hrow⟩ : ∃ b c, v = .sl b 0 A.length c 3 false ∧ b < h.next ∧ ∀ k a, A[k]? = some a → ∃ s, h.row b (k * 3) 3 = some [s, .i .i64 a.gap, .i .i64 a.room] ∧ ItemsAt h s a.L := by
      rcases hA with ⟨rfl, _⟩ | q
      · simp at hlt
      · exact q
    obtain ⟨s, hrs, hiS⟩ := hrow k a ha
    have r1 : h1.row b (k * 3) 3 = some [s, .i .i64 a.gap, .i .i64 a.room] := by rw [u1.row hbn]; exact hrs
    obtain ⟨L, gap, room⟩ := a
    simp only at r1 hiS
    have hlen8 := hlt.1
    repeat refine W_seq ?_
    refine W_cut (fun T1 h2 => T1.get 0 = some (.one (.sl b 0 A.length c 3 false)) ∧ T1.get 1 = some (.one (.b grow)) ∧ T1.get 5 = some (.one (.i .i64 (k : Int))) ∧ Up (· < h.next) h h2 ∧ Ok h2) ?_ ?_
    · refine W_block ?_
      (repeat refine W_seq ?_); refine W_region ?_
      iterate 2 (refine VX (by simp only [go_sem, ↓reduceIte, Nat.reduceEqDiff, Nat.reduceAdd, t0, t5]; rfl) ?_)
      (refine VX (by simp (disch := first | omega | simp) only [go_sem, ↓reduceIte, Nat.reduceEqDiff, Nat.reduceAdd, t0, t5]; rfl) ?_)
      (refine VX (by simp (disch := first | omega | simp) only [go_sem, ↓reduceIte, Nat.reduceEqDiff, Nat.reduceAdd, r1, t0, t5]; rfl) ?_)
      refine WO_alloc zb41 rfl o1 (by decide) fun h4 n4 => ?_
      refine WO_storeA (ee) (ee) sz41 rfl (by simp) n4.cells n4.may (by simp [V.cells]) fun h5 p5 => ?_
      have c5 := p5.cells
      simp only [V.cells, List.take_zero, List.nil_append, List.length_cons, List.length_nil, Nat.reduceAdd, Nat.zero_add, List.drop_succ_cons, List.drop_zero, List.append_nil] at c5
      have e4 := n4.next
      have e5 := p5.next
      have u5 : Up (· < h1.next) h1 h5 := n4.up.trans (p5.up.mono fun b hb => by omega)
      have o5 := p5.ok n4.ok
      have hi5 := (hiS.upLt u1).upLt u5
      have u15 : Up (· < h.next) h h5 := u1.trans (u5.mono fun b hb => by omega)
      refine WO_nil ?_; (repeat refine W_seq ?_)
      refine W_cut (fun T2 h6 => T2.get 0 = some (.one (.sl b 0 A.length c 3 false)) ∧ T2.get 1 = some (.one (.b grow)) ∧ T2.get 5 = some (.one (.i .i64 (k : Int))) ∧ T2.get 6 = some (.one (.p h1.next 0)) ∧ T2.get 36 = some (.one (.b (decide ((64 : Int) < (L.length : Int)) || !resOk L gap 0))) ∧ Up (· < h5.next) h5 h6 ∧ Ok h6) ?_ ?_
      · refine W_region ?_
        (refine VO ?_)
        (refine VX (by simp (disch := first | omega | simp) only [go_sem, ↓reduceIte, Nat.reduceEqDiff, Nat.reduceAdd, c5.row]; rfl) ?_)
        refine WO_val (hi5.len (ee)) (by decide) ?_
        by_cases h64 : (64 : Int) < (L.length : Int)
        · have d1 : decide ((64 : Int) < (L.length : Int)) = true := decide_eq_true h64
          iterate 6 (first | (refine VX (ex_bin (by simp only [go_sem, ↓reduceIte, Nat.reduceEqDiff, d1]; rfl) (by simp only [go_sem, ↓reduceIte, Nat.reduceEqDiff, d1]; rfl) in_gtr) ?_) | (refine VX (by simp only [go_sem, ↓reduceIte, Nat.reduceEqDiff, Nat.reduceAdd, d1]; rfl) ?_) | (refine VN (wantB_no rfl rfl (by simp only [go_sem, ↓reduceIte, Nat.reduceEqDiff, d1]; rfl) rfl) ?_) | (refine VG (wantB_true rfl rfl (by simp only [go_sem, ↓reduceIte, Nat.reduceEqDiff, d1]; rfl) rfl) (by simp only [go_sem, ↓reduceIte, Nat.reduceEqDiff, Nat.reduceAdd, d1]; rfl) ?_) | (refine VG (wantB_true rfl rfl (by simp only [go_sem, ↓reduceIte, Nat.reduceEqDiff, d1]; rfl) rfl) (by simp (disch := first | omega | simp) only [go_sem, ↓reduceIte, Nat.reduceEqDiff, Nat.reduceAdd, c5.row, d1]; rfl) ?_))
          refine WO_notG (wantB_no rfl rfl (by simp only [go_sem, ↓reduceIte, Nat.reduceEqDiff, d1]; rfl) rfl) (by decide) ?_
          first | (refine VN (wantB_no rfl rfl (by simp only [go_sem, ↓reduceIte, Nat.reduceEqDiff, d1]; rfl) rfl) ?_) | (refine VG (wantB_true rfl rfl (by simp only [go_sem, ↓reduceIte, Nat.reduceEqDiff, d1]; rfl) rfl) (ex_not (by simp only [go_sem, ↓reduceIte, Nat.reduceEqDiff, d1]; rfl)) ?_)
          (refine VX (by simp only [go_sem, ↓reduceIte, Nat.reduceEqDiff, Nat.reduceAdd, d1]; rfl) ?_)
          exact WO_nil ⟨rfl, gt t0, gt t1, gt t5, gs, by simp only [go_sem, ↓reduceIte, Nat.reduceEqDiff, d1]; rfl, .refl _ _, o5⟩
        · have d1 : decide ((64 : Int) < (L.length : Int)) = false := decide_eq_false h64
          iterate 6 (first | (refine VX (ex_bin (by simp only [go_sem, ↓reduceIte, Nat.reduceEqDiff, d1]; rfl) (by simp only [go_sem, ↓reduceIte, Nat.reduceEqDiff, d1]; rfl) in_gtr) ?_) | (refine VX (by simp only [go_sem, ↓reduceIte, Nat.reduceEqDiff, Nat.reduceAdd, d1]; rfl) ?_) | (refine VN (wantB_no rfl rfl (by simp only [go_sem, ↓reduceIte, Nat.reduceEqDiff, d1]; rfl) rfl) ?_) | (refine VG (wantB_true rfl rfl (by simp only [go_sem, ↓reduceIte, Nat.reduceEqDiff, d1]; rfl) rfl) (by simp only [go_sem, ↓reduceIte, Nat.reduceEqDiff, Nat.reduceAdd, d1]; rfl) ?_) | (refine VG (wantB_true rfl rfl (by simp only [go_sem, ↓reduceIte, Nat.reduceEqDiff, d1]; rfl) rfl) (by simp (disch := first | omega | simp) only [go_sem, ↓reduceIte, Nat.reduceEqDiff, Nat.reduceAdd, c5.row, d1]; rfl) ?_))
          refine WO_fnG (wantB_true rfl rfl (by simp only [go_sem, ↓reduceIte, Nat.reduceEqDiff, d1]; rfl) rfl) (by (simp only [go_sem, ↓reduceIte, Nat.reduceEqDiff, d1] <;> rfl)) (by simp) (by decide) ((mayres_fn hs4 o5 hi5 (by omega)).mono ?_)
          rintro w h6 ⟨rfl, u6, o6⟩
          first | (refine VN (wantB_no rfl rfl (by simp only [go_sem, ↓reduceIte, Nat.reduceEqDiff, d1]; rfl) rfl) ?_) | (refine VG (wantB_true rfl rfl (by simp only [go_sem, ↓reduceIte, Nat.reduceEqDiff, d1]; rfl) rfl) (ex_not (by simp only [go_sem, ↓reduceIte, Nat.reduceEqDiff, d1]; rfl)) ?_)
          (refine VX (by simp only [go_sem, ↓reduceIte, Nat.reduceEqDiff, Nat.reduceAdd, d1]; rfl) ?_)
          exact WO_nil ⟨rfl, gt t0, gt t1, gt t5, gs, by simp only [go_sem, ↓reduceIte, Nat.reduceEqDiff, d1]; rfl, u6, o6⟩
      clear t0 t1 t5
      rintro T2 h6 ⟨t0, t1, t5, t6, t36, u6, o6⟩
      have hn6 := u6.next
      have u16 : Up (· < h.next) h h6 := u15.trans (u6.mono fun b hb => by have := u15.next; omega)
      refine W_cond (by (simp only [go_sem, ↓reduceIte, Nat.reduceEqDiff, t36] <;> rfl)) (fun hc => W_exit ?_) (fun hc => W_skip ?_)
      · exact ⟨fun _ => ⟨rfl, t0, t1, t5, u16, o6⟩, fun hne => absurd rfl hne⟩
      have hr0 : resOk L gap 0 = true := by
        rw [Bool.or_eq_false_iff] at hc
        simpa using hc.2
      have lok0 := resOk_iff.1 hr0
      have hlen64 := lok0.len
      have hgap := lok0.gap
      have hi6 := hi5.upLt u6
      have c6 := u6.cells (show h1.next < h5.next by omega) c5
      have pok : ∀ y ∈ plains L, 0 ≤ y ∧ y ≤ 1099511627776 := fun y hy => by
        obtain ⟨z, hz, rfl⟩ := List.mem_map.1 hy
        exact (lok0.ok z hz).plain
      have hall1 := lineF_in (gap := gap) (l := plains L) (p := (false, 0)) (by simp)
      have hall0 := sum_nn (gap := gap) lok0.gap.1 (plains L) (false, 0) (fun y hy => (pok y hy).1) (Int.le_refl _)
      change 0 ≤ sumI (plains L) gap at hall0
      change _ ∧ sumI (plains L) gap ≤ _ at hall1
      repeat refine W_seq ?_
      refine W_drawn dr29_6 (by kernel_rfl) o6.floor ?_
      unfold dr29_6
      iterate 4 (first | (refine IX rfl (by simp only [go_sem, ↓reduceIte, Nat.reduceEqDiff, Nat.reduceAdd, t6]; rfl) ?_) | (refine IL rfl wantB_none (by simp only [go_sem, ↓reduceIte, Nat.reduceEqDiff, t6]; rfl) (by simp (disch := first | omega | simp) only [go_sem, ↓reduceIte, Nat.reduceEqDiff, Nat.reduceAdd, c6.row]; rfl) ?_))
      refine WI_call rfl rfl (doCall_fn (ee) (by simp)) (by decide) ?_
      refine (refplains_fn hs3 (o6.fenced (fun b hb => (by (try simp only [cond_true, cond_false]); repeat (first | exact Off.nil | refine Off.seen rfl ?_ | refine Off.off (by omega) ?_))) (fun b hb => (by (try simp only [cond_true, cond_false]); repeat (first | exact Off.nil | refine Off.seen rfl ?_ | refine Off.off (by omega) ?_))) o6.floor) (hi6.fenced fun b hb => by have := hi6.lt hb; (try simp only [cond_true, cond_false]); repeat (first | exact Off.nil | refine Off.seen rfl ?_ | refine Off.off (by omega) ?_)) (by omega)).mono ?_
      rintro r h7 ⟨x, rfl, gx, u7', o7'⟩
      have u7 := u7'.back
      have g7 := gx.back o6 (Nat.le_refl _) u7'
      have o7 := o6.back u7'
      have e7 : (h6.back h7).next = h7.next := rfl
      have u7n : h6.next ≤ h7.next := u7'.next
      change Up (· < h6.next) h6 _ at u7
      change Grown _ x h6.next 3 1 _ at g7
      clear gx o7' u7'
      generalize h6.back h7 = h8 at *
      refine WI_call rfl rfl (doCall_fn (ee) (by simp)) (by decide) ?_
      refine (reflength_fn hs4 (g7.ints.fenced fun b hb => by have := g7.lt hb; (try simp only [cond_true, cond_false]); repeat (first | exact Off.nil | refine Off.seen rfl ?_ | refine Off.off (by omega) ?_)) (by simp [plains]; omega) (fun y hy => by have := pok y hy; omega) (by omega)).mono ?_
      rintro r h9 ⟨rfl, rfl⟩
      simp only [back_fenced, fenced_next]
      (refine IOp rfl ?_)
      refine WI_nil ?_; (repeat refine W_seq ?_)
      have u18 : Up (· < h.next) h h8 := u16.trans (u7.mono fun b hb => by have := u16.next; omega)
      have hi8 := hi6.upLt u7
      have c8 := u7.cells (show h1.next < h6.next by omega) c6
      generalize sumI (plains L) gap = all at *
      refine W_region ?_
      iterate 4 (first | (refine VX (by simp only [go_sem, ↓reduceIte, Nat.reduceEqDiff, Nat.reduceAdd, t6]; rfl) ?_) | (refine VX (by simp (disch := first | omega | simp) only [go_sem, ↓reduceIte, Nat.reduceEqDiff, Nat.reduceAdd, c8.row, t6]; rfl) ?_) | (refine VX (ex_bin (by simp only [go_sem, ↓reduceIte, Nat.reduceEqDiff, t6]; rfl) (by simp only [go_sem, ↓reduceIte, Nat.reduceEqDiff, t6]; rfl) in_add) ?_; (try rw [wrap_id (by omega) (by omega)])))
      refine WO_fn (ee) (by simp) (by decide) ((lawWithin_fn hs21 (by omega)).mono ?_)
      rintro _ h8 ⟨⟨m, rfl, hm0, hm1⟩, rfl⟩
      (refine VO ?_)
      refine WO_nil ?_
      refine W_seq ?_
      refine W_cut (fun T3 h9 => h9 = h8 ∧ ∃ rm, T3.get 0 = some (.one (.sl b 0 A.length c 3 false)) ∧ T3.get 1 = some (.one (.b grow)) ∧ T3.get 5 = some (.one (.i .i64 (k : Int))) ∧ T3.get 6 = some (.one (.p h1.next 0)) ∧ T3.get 8 = some (.one (.i .i64 rm)) ∧ 0 ≤ rm ∧ rm ≤ 1099511627776) ?_ ?_
      · (repeat refine W_seq ?_); refine W_region ?_
        (refine VX (by simp only [go_sem, ↓reduceIte, Nat.reduceEqDiff, Nat.reduceAdd, t1]; rfl) ?_)
        refine WO_nil ?_; (repeat refine W_seq ?_)
        refine W_cond (by (simp only [go_sem, ↓reduceIte, Nat.reduceEqDiff, t1] <;> rfl)) (fun hc => ?_) (fun hc => W_skip ?_)
        · refine W_region ?_
          iterate 4 (first | (refine VX (by simp only [go_sem, ↓reduceIte, Nat.reduceEqDiff, Nat.reduceAdd, t6]; rfl) ?_) | (refine VX (ex_bin (by simp only [go_sem, ↓reduceIte, Nat.reduceEqDiff, t6]; rfl) (by simp only [go_sem, ↓reduceIte, Nat.reduceEqDiff, t6]; rfl) in_add) ?_; (try rw [wrap_id (by omega) (by omega)])) | (refine VX (by simp (disch := first | omega | simp) only [go_sem, ↓reduceIte, Nat.reduceEqDiff, Nat.reduceAdd, c8.row, t6]; rfl) ?_))
          refine WO_fn (ee) (by simp) (by decide) ((lawWithin_fn hs21 (n := 1048576) (by omega)).mono ?_)
          rintro _ h8 ⟨⟨m2, rfl, hm20, hm21⟩, rfl⟩
          (refine VX (ex_bin ee ee in_add) ?_; (try rw [wrap_id (by omega) (by omega)]))
          (refine VX (ex_min (by simp only [go_sem, ↓reduceIte, Nat.reduceEqDiff]; rfl) (by simp only [go_sem, ↓reduceIte, Nat.reduceEqDiff]; rfl)) ?_)
          (refine VO ?_)
          exact WO_nil ⟨rfl, rfl, _, gt t0, gt t1, gt t5, gt t6, gs, by omega, by omega⟩
        · exact ⟨rfl, rfl, m, gt t0, gt t1, gt t5, gt t6, gs, by omega, by omega⟩
      clear t0 t1 t5 t6 t36
      rintro T3 h9 ⟨rfl, rm, t0, t1, t5, t6, t8, hrm0, hrm1⟩
      have lok : LineOk L gap rm := ⟨lok0.ok, lok0.len, lok0.gap, hrm0, hrm1⟩
      have hr : resOk L gap rm = true := resOk_iff.2 lok
      (repeat refine W_seq ?_); refine W_region ?_
      iterate 5 (first | (refine VX (by simp only [go_sem, ↓reduceIte, Nat.reduceEqDiff, Nat.reduceAdd, t6, t8]; rfl) ?_) | (refine VX (by simp (disch := first | omega | simp) only [go_sem, ↓reduceIte, Nat.reduceEqDiff, Nat.reduceAdd, c8.row, t6, t8]; rfl) ?_))
      refine WO_fn (ee) (by simp) (by decide) ((resolve_fn hs hs1 hs2 o7 hi8).mono ?_)
      rintro r h10 ⟨x10, rfl, g10, u10, o10⟩
      rw [hr, if_pos rfl] at g10
      simp only [hr, if_true]
      have hn8 := u7.next
      have hn10 := u10.next
      have hi10 := hi8.upLt u10
      have c10 := u10.cells (show h1.next < h9.next by omega) c8
      iterate 5 (refine VO ?_)
      refine WO_nil ?_; (repeat refine W_seq ?_)
      refine W_region ?_
      (refine VO ?_)
      refine WO_fn (ee) (by simp) (by decide) ((num_fn hs3).mono ?_)
      rintro r h10 ⟨rfl, rfl⟩
      iterate 8 (first | (refine VX (ex_bin (by simp only [go_sem, ↓reduceIte, Nat.reduceEqDiff, t6, t8]; rfl) (by simp only [go_sem, ↓reduceIte, Nat.reduceEqDiff, t6, t8]; rfl) in_neq) ?_) | (refine VX (by simp only [go_sem, ↓reduceIte, Nat.reduceEqDiff, Nat.reduceAdd, t6, t8]; rfl) ?_) | (refine VN (wantB_no rfl rfl (by simp only [go_sem, ↓reduceIte, Nat.reduceEqDiff, t6, t8]; rfl) rfl) ?_) | (refine VG (wantB_true rfl rfl (by simp only [go_sem, ↓reduceIte, Nat.reduceEqDiff, t6, t8]; rfl) rfl) (by simp only [go_sem, ↓reduceIte, Nat.reduceEqDiff, Nat.reduceAdd, t6, t8]; rfl) ?_) | (refine VG (wantB_true rfl rfl (by simp only [go_sem, ↓reduceIte, Nat.reduceEqDiff, t6, t8]; rfl) rfl) (by simp (disch := first | omega | simp) only [go_sem, ↓reduceIte, Nat.reduceEqDiff, Nat.reduceAdd, c10.row, t6, t8]; rfl) ?_))
      refine WO_fnG (wantB_true rfl rfl (by simp only [go_sem, ↓reduceIte, Nat.reduceEqDiff]; rfl) rfl) (by (simp only [go_sem, ↓reduceIte, Nat.reduceEqDiff, t8] <;> rfl)) (by simp) (by decide) ((refres_fn hs4 hs3 o10 lok hi10).mono ?_)
      rintro r h11 ⟨x11, rfl, g11, u11, o11⟩
      refine WO_fnG (wantB_true rfl rfl (by simp only [go_sem, ↓reduceIte, Nat.reduceEqDiff]; rfl) rfl) (ee) g10.pair (by decide) ((eq_fn hs3 o11 (g10.ints.upLt u11) g11.ints (by rw [solve_length]; omega)).mono ?_)
      rintro r h11 ⟨rfl, rfl⟩
      first | (refine VN (wantB_no rfl rfl (by simp only [go_sem, ↓reduceIte, Nat.reduceEqDiff]; rfl) rfl) ?_) | (refine VG (wantB_true rfl rfl (by simp only [go_sem, ↓reduceIte, Nat.reduceEqDiff]; rfl) rfl) (ex_not (by simp only [go_sem, ↓reduceIte, Nat.reduceEqDiff]; rfl)) ?_)
      (refine VO ?_)
      refine WO_nil ?_; (repeat refine W_seq ?_)
      refine W_cond (ee) (fun hc => by simp at hc) (fun _ => W_skip ?_)
      exact ⟨rfl, gt t0, gt t1, gt t5, (u18.trans (u10.mono fun b hb => by have := u18.next; omega)).trans (u11.mono fun b hb => by have := u18.next; omega), o11⟩
    clear t0 t1 t5
    rintro T2 h3 ⟨t0, t1, t5, u3, o3⟩
    (repeat refine W_seq ?_); refine W_region ?_
    iterate 3 (first | (refine VX (by simp only [go_sem, ↓reduceIte, Nat.reduceEqDiff, Nat.reduceAdd, t5]; rfl) ?_) | (refine VX (ex_bin (by simp only [go_sem, ↓reduceIte, Nat.reduceEqDiff, t5]; rfl) (by simp only [go_sem, ↓reduceIte, Nat.reduceEqDiff, t5]; rfl) in_add) ?_; (try rw [wrap_id (by omega) (by omega)])))
    exact WO_nil ⟨10 - (k + 1), by omega, k + 1, rfl, by omega, gt t0, gt t1, gs, u3, o3⟩
  · refine ⟨fun _ => ?_, fun hne => absurd rfl hne⟩
    (repeat refine W_seq ?_); refine W_region ?_
    refine WO_fn (ee) (by simp) (by decide) ((wakes_fn hs hs1 hs2 hs3 o1).mono ?_)
    rintro r h3 ⟨rfl, u3, o3⟩
    (refine VO ?_)
    exact WO_nil (W_ret ⟨.inr rfl, _, by (simp only [resultB, resB, parts, V.part, Sl.get_set', ↓reduceIte, Nat.reduceEqDiff] <;> rfl), rfl⟩)
set_option maxHeartbeats 0 in
theorem growing_fn {spec : CallF} (hs : SpecRes spec) (hs1 : SpecFlex spec) (hs2 : SpecSort spec) (hs3 : SpecEq spec) (hs4 : SpecRef spec) (hs9 : ∀ args h, spec 9 args h = none) (hs29 : ∀ args h, spec 29 args h = none) (hs21 : ∀ args h, spec 21 args h = none) {h : H} {v : S} {A : List Ask} (ok : Ok h) (hA : AsksAt h v A) :
    WF Try.prog spec 9 [.one v] h fun r h1 => r = .one (.b true) := by
  refine WF_of Try.func9 rfl (hs9 _ _) (by rw [Try.ntmps9]; simp) (by rw [Try.ntmps9]; decide) ?_
  rw [Try.ntmps9, Try.results9]
  simp only [Sl.setMany_cons, Sl.setMany_nil, Nat.zero_add, Nat.reduceAdd]
  (repeat refine W_seq ?_); refine W_region ?_
  (refine VO ?_)
  refine WO_nil ?_; (repeat refine W_seq ?_)
  refine W_region ?_
  (refine VO ?_)
  refine WO_fn (ee) (by simp) (by decide) ((side_fn hs hs1 hs2 hs3 hs4 hs29 hs21 ok hA).mono ?_)
  rintro r h3 rfl
  (refine VO ?_)
  exact WO_nil (W_ret ⟨.inr rfl, _, by (simp only [resultB, resB, parts, V.part, Sl.get_set', ↓reduceIte, Nat.reduceEqDiff] <;> rfl), rfl⟩)
set_option maxHeartbeats 0 in
theorem shrinking_fn {spec : CallF} (hs : SpecRes spec) (hs1 : SpecFlex spec) (hs2 : SpecSort spec) (hs3 : SpecEq spec) (hs4 : SpecRef spec) (hs10 : ∀ args h, spec 10 args h = none) (hs29 : ∀ args h, spec 29 args h = none) (hs21 : ∀ args h, spec 21 args h = none) {h : H} {v : S} {A : List Ask} (ok : Ok h) (hA : AsksAt h v A) :
    WF Try.prog spec 10 [.one v] h fun r h1 => r = .one (.b true) := by
  refine WF_of Try.func10 rfl (hs10 _ _) (by rw [Try.ntmps10]; simp) (by rw [Try.ntmps10]; decide) ?_
  rw [Try.ntmps10, Try.results10]
  simp only [Sl.setMany_cons, Sl.setMany_nil, Nat.zero_add, Nat.reduceAdd]
  (repeat refine W_seq ?_); refine W_region ?_
  (refine VO ?_)
  refine WO_nil ?_; (repeat refine W_seq ?_)
  refine W_region ?_
  (refine VO ?_)
  refine WO_fn (ee) (by simp) (by decide) ((side_fn hs hs1 hs2 hs3 hs4 hs29 hs21 ok hA).mono ?_)
  rintro r h3 rfl
  (refine VO ?_)
  exact WO_nil (W_ret ⟨.inr rfl, _, by (simp only [resultB, resB, parts, V.part, Sl.get_set', ↓reduceIte, Nat.reduceEqDiff] <;> rfl), rfl⟩)
end Go.Ai
