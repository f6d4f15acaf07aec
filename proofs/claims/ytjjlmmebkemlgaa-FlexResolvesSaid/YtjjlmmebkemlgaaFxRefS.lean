/-
The reference's small functions: numbers, items, weights, lengths, whether a line may be.
-/
import Derived.Test.YtjjlmmebkemlgaaFxSplit
set_option linter.unusedVariables false
set_option linter.unusedSimpArgs false
namespace Go.Ai
open Go.Proofs

/-- None of these is told ahead. -/
structure SpecRef (spec : CallF) : Prop where
  s18 : ∀ args h, spec 18 args h = none
  s23 : ∀ args h, spec 23 args h = none
  s25 : ∀ args h, spec 25 args h = none
  s30 : ∀ args h, spec 30 args h = none
  s36 : ∀ args h, spec 36 args h = none
  s37 : ∀ args h, spec 37 args h = none
  s43 : ∀ args h, spec 43 args h = none
  s44 : ∀ args h, spec 44 args h = none
  s54 : ∀ args h, spec 54 args h = none
  s62 : ∀ args h, spec 62 args h = none
theorem specRef : SpecRef fun _ _ _ => none := ⟨fun _ _ => rfl, fun _ _ => rfl, fun _ _ => rfl, fun _ _ => rfl, fun _ _ => rfl, fun _ _ => rfl, fun _ _ => rfl, fun _ _ => rfl, fun _ _ => rfl, fun _ _ => rfl⟩
set_option maxHeartbeats 0 in
theorem refnum_fn {spec : CallF} (hs : SpecRef spec) {h : H} {a b : Int} :
    WF Try.prog spec 37 [.one (.i .i64 a), .one (.i .i64 b)] h fun v h1 => v = .one (.b (!decide (a < 0) && !decide (b < a))) ∧ h1 = h := by
  refine WF_of Try.func37 rfl (hs.s37 _ _) (by rw [Try.ntmps37]; simp) (by rw [Try.ntmps37]; decide) ?_
  rw [Try.ntmps37, Try.results37]
  simp only [Sl.setMany_cons, Sl.setMany_nil, Nat.zero_add, Nat.reduceAdd]
  (repeat refine W_seq ?_); refine W_region ?_
  (refine VO ?_)
  refine WO_nil ?_; (repeat refine W_seq ?_)
  refine W_region ?_
  (refine VO ?_)
  (refine VX (ex_bin ee ee in_geq) ?_)
  (refine VO ?_)
  refine WO_grd rfl rfl (by simp only [go_sem, ↓reduceIte, Nat.reduceEqDiff]; rfl) (fun c1 => ?_) (fun c1 => ?_)
  · (refine VG (wantB_true rfl rfl (by simp only [go_sem, ↓reduceIte, Nat.reduceEqDiff, c1]; rfl) rfl) (by simp only [go_sem, ↓reduceIte, Nat.reduceEqDiff, Nat.reduceAdd, c1]; rfl) ?_)
    (refine VG (wantB_true rfl rfl (by simp only [go_sem, ↓reduceIte, Nat.reduceEqDiff, c1]; rfl) rfl) (by simp only [go_sem, ↓reduceIte, Nat.reduceEqDiff, Nat.reduceAdd, c1]; rfl) ?_)
    (refine VG (wantB_true rfl rfl (by simp only [go_sem, ↓reduceIte, Nat.reduceEqDiff, c1]; rfl) rfl) (ex_bin (by simp only [go_sem, ↓reduceIte, Nat.reduceEqDiff, c1]; rfl) (by simp only [go_sem, ↓reduceIte, Nat.reduceEqDiff, c1]; rfl) in_leq) ?_)
    (refine VX (by simp only [go_sem, ↓reduceIte, Nat.reduceEqDiff, Nat.reduceAdd, c1]; rfl) ?_)
    (refine VX (by simp only [go_sem, ↓reduceIte, Nat.reduceEqDiff, Nat.reduceAdd, c1]; rfl) ?_)
    refine WO_nil (W_ret ⟨.inr rfl, _, by (simp only [resultB, resB, parts, V.part, Sl.get_set', ↓reduceIte, Nat.reduceEqDiff, c1] <;> rfl), ?_, rfl⟩)
    simp [c1]
  · refine VN (wantB_no rfl rfl (by simp only [go_sem, ↓reduceIte, Nat.reduceEqDiff, c1]; rfl) rfl) ?_
    refine VN (wantB_no rfl rfl (by simp only [go_sem, ↓reduceIte, Nat.reduceEqDiff, c1]; rfl) rfl) ?_
    refine VN (wantB_no rfl rfl (by simp only [go_sem, ↓reduceIte, Nat.reduceEqDiff, c1]; rfl) rfl) ?_
    (refine VX (by simp only [go_sem, ↓reduceIte, Nat.reduceEqDiff, Nat.reduceAdd, c1]; rfl) ?_)
    (refine VX (by simp only [go_sem, ↓reduceIte, Nat.reduceEqDiff, Nat.reduceAdd, c1]; rfl) ?_)
    refine WO_nil (W_ret ⟨.inr rfl, _, by (simp only [resultB, resB, parts, V.part, Sl.get_set', ↓reduceIte, Nat.reduceEqDiff, c1] <;> rfl), ?_, rfl⟩)
    simp [c1]
set_option maxHeartbeats 0 in
theorem refsize_fn {spec : CallF} (hs : SpecRef spec) {h : H} {x : Int} :
    WF Try.prog spec 36 [.one (.i .i64 x)] h fun v h1 => v = .one (.b (okI x)) ∧ h1 = h := by
  refine WF_of Try.func36 rfl (hs.s36 _ _) (by rw [Try.ntmps36]; simp) (by rw [Try.ntmps36]; decide) ?_
  rw [Try.ntmps36, Try.results36]
  simp only [Sl.setMany_cons, Sl.setMany_nil, Nat.zero_add, Nat.reduceAdd]
  (repeat refine W_seq ?_); refine W_region ?_
  (refine VO ?_)
  refine WO_nil ?_; (repeat refine W_seq ?_)
  refine W_region ?_
  (refine VO ?_)
  refine WO_fn (ee) (by simp) (by decide) ((refnum_fn hs).mono ?_)
  rintro v h2 ⟨rfl, rfl⟩
  (refine VO ?_)
  exact WO_nil (W_ret ⟨.inr rfl, _, by (simp only [resultB, resB, parts, V.part, Sl.get_set', ↓reduceIte, Nat.reduceEqDiff] <;> rfl), rfl, rfl⟩)
set_option maxHeartbeats 0 in
theorem refsat_fn {spec : CallF} (hs : SpecRef spec) {h : H} {x : Int} :
    WF Try.prog spec 62 [.one (.i .i64 x)] h fun v h1 => v = .one (.i .i64 (satI x)) ∧ h1 = h := by
  refine WF_of Try.func62 rfl (hs.s62 _ _) (by rw [Try.ntmps62]; simp) (by rw [Try.ntmps62]; decide) ?_
  rw [Try.ntmps62, Try.results62]
  simp only [Sl.setMany_cons, Sl.setMany_nil, Nat.zero_add, Nat.reduceAdd]
  (repeat refine W_seq ?_); refine W_region ?_
  (refine VO ?_)
  refine WO_nil ?_; (repeat refine W_seq ?_)
  refine W_region ?_
  (refine VO ?_)
  (refine VX (ex_min (by simp only [go_sem, ↓reduceIte, Nat.reduceEqDiff]; rfl) (by simp only [go_sem, ↓reduceIte, Nat.reduceEqDiff]; rfl)) ?_)
  (refine VX (ex_max (by simp only [go_sem, ↓reduceIte, Nat.reduceEqDiff]; rfl) (by simp only [go_sem, ↓reduceIte, Nat.reduceEqDiff]; rfl)) ?_)
  (refine VO ?_)
  refine WO_nil (W_ret ⟨.inr rfl, _, by (simp only [resultB, resB, parts, V.part, Sl.get_set', ↓reduceIte, Nat.reduceEqDiff] <;> rfl), ?_, rfl⟩)
  unfold satI
  congr 3
  omega
set_option maxHeartbeats 0 in
theorem refadd_fn {spec : CallF} (hs : SpecRef spec) {h : H} {a b : Int} (ha : -4398046511104 ≤ a ∧ a ≤ 4398046511104) (hb : -4398046511104 ≤ b ∧ b ≤ 4398046511104) :
    WF Try.prog spec 54 [.one (.i .i64 a), .one (.i .i64 b)] h fun v h1 => v = .one (.i .i64 (satI (a + b))) ∧ h1 = h := by
  refine WF_of Try.func54 rfl (hs.s54 _ _) (by rw [Try.ntmps54]; simp) (by rw [Try.ntmps54]; decide) ?_
  rw [Try.ntmps54, Try.results54]
  simp only [Sl.setMany_cons, Sl.setMany_nil, Nat.zero_add, Nat.reduceAdd]
  (repeat refine W_seq ?_); refine W_region ?_
  (refine VO ?_)
  refine WO_nil ?_; (repeat refine W_seq ?_)
  refine W_region ?_
  iterate 2 (refine VO ?_)
  (refine VX (ex_bin ee ee in_add) ?_; (try rw [wrap_id (by omega) (by omega)]))
  refine WO_fn (ee) (by simp) (by decide) ((refsat_fn hs).mono ?_)
  rintro v h2 ⟨rfl, rfl⟩
  (refine VO ?_)
  exact WO_nil (W_ret ⟨.inr rfl, _, by (simp only [resultB, resB, parts, V.part, Sl.get_set', ↓reduceIte, Nat.reduceEqDiff] <;> rfl), rfl, rfl⟩)
set_option maxHeartbeats 0 in
theorem refitem_fn {spec : CallF} (hs : SpecRef spec) {h : H} {x : Itm} (ok : Ok h) :
    WF Try.prog spec 30 [.agg x.cells] h fun v h1 => v = .one (.b x.okB) ∧ Up (· < h.next) h h1 ∧ Ok h1 := by
  refine WF_of Try.func30 rfl (hs.s30 _ _) (by rw [Try.ntmps30]; simp) (by rw [Try.ntmps30]; decide) ?_
  rw [Try.ntmps30, Try.results30]
  simp only [Sl.setMany_cons, Sl.setMany_nil, Nat.zero_add, Nat.reduceAdd]
  (repeat refine W_seq ?_); refine W_region ?_
  refine WO_boxA (ee) ok (by decide) fun h1 n1 => ?_
  have r1 := n1.cells
  unfold Itm.cells at r1
  (refine VO ?_)
  refine WO_nil ?_; (repeat refine W_seq ?_)
  refine W_region ?_
  (refine VO ?_)
  (refine VX (by simp (disch := first | omega | simp) only [go_sem, ↓reduceIte, Nat.reduceEqDiff, Nat.reduceAdd, r1.row]; rfl) ?_)
  refine WO_fn (ee) (by simp) (by decide) ((refsize_fn hs).mono ?_)
  rintro _ _ ⟨rfl, rfl⟩
  (refine VO ?_)
  refine WO_grd rfl rfl (by simp only [go_sem, ↓reduceIte, Nat.reduceEqDiff]; rfl) (fun c1 => ?_) (fun c1 => ?_)
  · (refine VG (wantB_true rfl rfl (by simp only [go_sem, ↓reduceIte, Nat.reduceEqDiff, c1]; rfl) rfl) (by simp only [go_sem, ↓reduceIte, Nat.reduceEqDiff, Nat.reduceAdd, c1]; rfl) ?_)
    (refine VG (wantB_true rfl rfl (by simp only [go_sem, ↓reduceIte, Nat.reduceEqDiff, c1]; rfl) rfl) (by simp (disch := first | omega | simp) only [go_sem, ↓reduceIte, Nat.reduceEqDiff, Nat.reduceAdd, r1.row, c1]; rfl) ?_)
    refine WO_fnG (wantB_true rfl rfl (by simp only [go_sem, ↓reduceIte, Nat.reduceEqDiff, c1]; rfl) rfl)  (by (simp only [go_sem, ↓reduceIte, Nat.reduceEqDiff, c1] <;> rfl)) (by simp) (by decide) ((refsize_fn hs).mono ?_)
    rintro _ _ ⟨rfl, rfl⟩
    (refine VX (by simp only [go_sem, ↓reduceIte, Nat.reduceEqDiff, Nat.reduceAdd, c1]; rfl) ?_)
    (refine VX (by simp only [go_sem, ↓reduceIte, Nat.reduceEqDiff, Nat.reduceAdd, c1]; rfl) ?_)
    refine WO_grd rfl rfl (by simp only [go_sem, ↓reduceIte, Nat.reduceEqDiff, c1]; rfl) (fun c2 => ?_) (fun c2 => ?_)
    · (refine VG (wantB_true rfl rfl (by simp only [go_sem, ↓reduceIte, Nat.reduceEqDiff, c1, c2]; rfl) rfl) (by simp only [go_sem, ↓reduceIte, Nat.reduceEqDiff, Nat.reduceAdd, c1, c2]; rfl) ?_)
      (refine VG (wantB_true rfl rfl (by simp only [go_sem, ↓reduceIte, Nat.reduceEqDiff, c1, c2]; rfl) rfl) (by simp (disch := first | omega | simp) only [go_sem, ↓reduceIte, Nat.reduceEqDiff, Nat.reduceAdd, r1.row, c1, c2]; rfl) ?_)
      refine WO_fnG (wantB_true rfl rfl (by simp only [go_sem, ↓reduceIte, Nat.reduceEqDiff, c1, c2]; rfl) rfl)  (by (simp only [go_sem, ↓reduceIte, Nat.reduceEqDiff, c1, c2] <;> rfl)) (by simp) (by decide) ((refsize_fn hs).mono ?_)
      rintro _ _ ⟨rfl, rfl⟩
      (refine VG (wantB_true rfl rfl (by simp only [go_sem, ↓reduceIte, Nat.reduceEqDiff, c1, c2]; rfl) rfl) (by simp only [go_sem, ↓reduceIte, Nat.reduceEqDiff, Nat.reduceAdd, c1, c2]; rfl) ?_)
      refine WO_grd rfl rfl (by simp only [go_sem, ↓reduceIte, Nat.reduceEqDiff, c1, c2]; rfl) (fun c3 => ?_) (fun c3 => ?_)
      · refine VN (wantB_no rfl rfl (by simp only [go_sem, ↓reduceIte, Nat.reduceEqDiff, c1, c2, c3]; rfl) rfl) ?_
        refine VN (wantB_no rfl rfl (by simp only [go_sem, ↓reduceIte, Nat.reduceEqDiff, c1, c2, c3]; rfl) rfl) ?_
        refine VN (wantB_no rfl rfl (by simp only [go_sem, ↓reduceIte, Nat.reduceEqDiff, c1, c2, c3]; rfl) rfl) ?_
        (refine VG (wantB_true rfl rfl (by simp only [go_sem, ↓reduceIte, Nat.reduceEqDiff, c1, c2, c3]; rfl) rfl) (by simp only [go_sem, ↓reduceIte, Nat.reduceEqDiff, Nat.reduceAdd, c1, c2, c3]; rfl) ?_)
        (refine VX (by simp only [go_sem, ↓reduceIte, Nat.reduceEqDiff, Nat.reduceAdd, c1, c2, c3]; rfl) ?_)
        (refine VX (by simp only [go_sem, ↓reduceIte, Nat.reduceEqDiff, Nat.reduceAdd, c1, c2, c3]; rfl) ?_)
        (refine VG (wantB_true rfl rfl (by simp only [go_sem, ↓reduceIte, Nat.reduceEqDiff, c1, c2, c3]; rfl) rfl) (by simp only [go_sem, ↓reduceIte, Nat.reduceEqDiff, Nat.reduceAdd, c1, c2, c3]; rfl) ?_)
        (refine VG (wantB_true rfl rfl (by simp only [go_sem, ↓reduceIte, Nat.reduceEqDiff, c1, c2, c3]; rfl) rfl) (by simp (disch := first | omega | simp) only [go_sem, ↓reduceIte, Nat.reduceEqDiff, Nat.reduceAdd, r1.row, c1, c2, c3]; rfl) ?_)
        refine WO_fnG (wantB_true rfl rfl (by simp only [go_sem, ↓reduceIte, Nat.reduceEqDiff, c1, c2, c3]; rfl) rfl)  (by (simp only [go_sem, ↓reduceIte, Nat.reduceEqDiff, c1, c2, c3] <;> rfl)) (by simp) (by decide) ((refnum_fn hs).mono ?_)
        rintro _ _ ⟨rfl, rfl⟩
        (refine VX (by simp only [go_sem, ↓reduceIte, Nat.reduceEqDiff, Nat.reduceAdd, c1, c2, c3]; rfl) ?_)
        (refine VX (by simp only [go_sem, ↓reduceIte, Nat.reduceEqDiff, Nat.reduceAdd, c1, c2, c3]; rfl) ?_)
        refine WO_grd rfl rfl (by simp only [go_sem, ↓reduceIte, Nat.reduceEqDiff, c1, c2, c3]; rfl) (fun c4 => ?_) (fun c4 => ?_)
        · (refine VG (wantB_true rfl rfl (by simp only [go_sem, ↓reduceIte, Nat.reduceEqDiff, c1, c2, c3, c4]; rfl) rfl) (by simp only [go_sem, ↓reduceIte, Nat.reduceEqDiff, Nat.reduceAdd, c1, c2, c3, c4]; rfl) ?_)
          (refine VG (wantB_true rfl rfl (by simp only [go_sem, ↓reduceIte, Nat.reduceEqDiff, c1, c2, c3, c4]; rfl) rfl) (by simp (disch := first | omega | simp) only [go_sem, ↓reduceIte, Nat.reduceEqDiff, Nat.reduceAdd, r1.row, c1, c2, c3, c4]; rfl) ?_)
          refine WO_fnG (wantB_true rfl rfl (by simp only [go_sem, ↓reduceIte, Nat.reduceEqDiff, c1, c2, c3, c4]; rfl) rfl)  (by (simp only [go_sem, ↓reduceIte, Nat.reduceEqDiff, c1, c2, c3, c4] <;> rfl)) (by simp) (by decide) ((refnum_fn hs).mono ?_)
          rintro _ _ ⟨rfl, rfl⟩
          (refine VX (by simp only [go_sem, ↓reduceIte, Nat.reduceEqDiff, Nat.reduceAdd, c1, c2, c3, c4]; rfl) ?_)
          (refine VX (by simp only [go_sem, ↓reduceIte, Nat.reduceEqDiff, Nat.reduceAdd, c1, c2, c3, c4]; rfl) ?_)
          refine WO_nil (W_ret ⟨.inr rfl, _, by (simp only [resultB, resB, parts, V.part, Sl.get_set', ↓reduceIte, Nat.reduceEqDiff, c1, c2, c3, c4] <;> rfl), ?_, n1.up, n1.ok⟩)
          unfold Itm.okB wtI
          simp [c1, c2, c3, c4]
        · refine VN (wantB_no rfl rfl (by simp only [go_sem, ↓reduceIte, Nat.reduceEqDiff, c1, c2, c3, c4]; rfl) rfl) ?_
          refine VN (wantB_no rfl rfl (by simp only [go_sem, ↓reduceIte, Nat.reduceEqDiff, c1, c2, c3, c4]; rfl) rfl) ?_
          refine VN (wantB_no rfl rfl (by simp only [go_sem, ↓reduceIte, Nat.reduceEqDiff, c1, c2, c3, c4]; rfl) rfl) ?_
          (refine VX (by simp only [go_sem, ↓reduceIte, Nat.reduceEqDiff, Nat.reduceAdd, c1, c2, c3, c4]; rfl) ?_)
          (refine VX (by simp only [go_sem, ↓reduceIte, Nat.reduceEqDiff, Nat.reduceAdd, c1, c2, c3, c4]; rfl) ?_)
          refine WO_nil (W_ret ⟨.inr rfl, _, by (simp only [resultB, resB, parts, V.part, Sl.get_set', ↓reduceIte, Nat.reduceEqDiff, c1, c2, c3, c4] <;> rfl), ?_, n1.up, n1.ok⟩)
          unfold Itm.okB wtI
          simp [c1, c2, c3, c4]
      · (refine VG (wantB_true rfl rfl (by simp only [go_sem, ↓reduceIte, Nat.reduceEqDiff, c1, c2, c3]; rfl) rfl) (by simp only [go_sem, ↓reduceIte, Nat.reduceEqDiff, Nat.reduceAdd, c1, c2, c3]; rfl) ?_)
        (refine VG (wantB_true rfl rfl (by simp only [go_sem, ↓reduceIte, Nat.reduceEqDiff, c1, c2, c3]; rfl) rfl) (by simp (disch := first | omega | simp) only [go_sem, ↓reduceIte, Nat.reduceEqDiff, Nat.reduceAdd, r1.row, c1, c2, c3]; rfl) ?_)
        (refine VG (wantB_true rfl rfl (by simp only [go_sem, ↓reduceIte, Nat.reduceEqDiff, c1, c2, c3]; rfl) rfl) (ex_bin (by simp only [go_sem, ↓reduceIte, Nat.reduceEqDiff, c1, c2, c3]; rfl) (by simp only [go_sem, ↓reduceIte, Nat.reduceEqDiff, c1, c2, c3]; rfl) in_eql) ?_)
        (refine VG (wantB_true rfl rfl (by simp only [go_sem, ↓reduceIte, Nat.reduceEqDiff, c1, c2, c3]; rfl) rfl) (by simp only [go_sem, ↓reduceIte, Nat.reduceEqDiff, Nat.reduceAdd, c1, c2, c3]; rfl) ?_)
        (refine VX (by simp only [go_sem, ↓reduceIte, Nat.reduceEqDiff, Nat.reduceAdd, c1, c2, c3]; rfl) ?_)
        (refine VX (by simp only [go_sem, ↓reduceIte, Nat.reduceEqDiff, Nat.reduceAdd, c1, c2, c3]; rfl) ?_)
        refine WO_grd rfl rfl (by simp only [go_sem, ↓reduceIte, Nat.reduceEqDiff, c1, c2, c3]; rfl) (fun c4 => ?_) (fun c4 => ?_)
        · (refine VG (wantB_true rfl rfl (by simp only [go_sem, ↓reduceIte, Nat.reduceEqDiff, c1, c2, c3, c4]; rfl) rfl) (by simp only [go_sem, ↓reduceIte, Nat.reduceEqDiff, Nat.reduceAdd, c1, c2, c3, c4]; rfl) ?_)
          (refine VG (wantB_true rfl rfl (by simp only [go_sem, ↓reduceIte, Nat.reduceEqDiff, c1, c2, c3, c4]; rfl) rfl) (by simp (disch := first | omega | simp) only [go_sem, ↓reduceIte, Nat.reduceEqDiff, Nat.reduceAdd, r1.row, c1, c2, c3, c4]; rfl) ?_)
          refine WO_fnG (wantB_true rfl rfl (by simp only [go_sem, ↓reduceIte, Nat.reduceEqDiff, c1, c2, c3, c4]; rfl) rfl)  (by (simp only [go_sem, ↓reduceIte, Nat.reduceEqDiff, c1, c2, c3, c4] <;> rfl)) (by simp) (by decide) ((refnum_fn hs).mono ?_)
          rintro _ _ ⟨rfl, rfl⟩
          (refine VX (by simp only [go_sem, ↓reduceIte, Nat.reduceEqDiff, Nat.reduceAdd, c1, c2, c3, c4]; rfl) ?_)
          (refine VX (by simp only [go_sem, ↓reduceIte, Nat.reduceEqDiff, Nat.reduceAdd, c1, c2, c3, c4]; rfl) ?_)
          refine WO_grd rfl rfl (by simp only [go_sem, ↓reduceIte, Nat.reduceEqDiff, c1, c2, c3, c4]; rfl) (fun c5 => ?_) (fun c5 => ?_)
          · (refine VG (wantB_true rfl rfl (by simp only [go_sem, ↓reduceIte, Nat.reduceEqDiff, c1, c2, c3, c4, c5]; rfl) rfl) (by simp only [go_sem, ↓reduceIte, Nat.reduceEqDiff, Nat.reduceAdd, c1, c2, c3, c4, c5]; rfl) ?_)
            (refine VG (wantB_true rfl rfl (by simp only [go_sem, ↓reduceIte, Nat.reduceEqDiff, c1, c2, c3, c4, c5]; rfl) rfl) (by simp (disch := first | omega | simp) only [go_sem, ↓reduceIte, Nat.reduceEqDiff, Nat.reduceAdd, r1.row, c1, c2, c3, c4, c5]; rfl) ?_)
            refine WO_fnG (wantB_true rfl rfl (by simp only [go_sem, ↓reduceIte, Nat.reduceEqDiff, c1, c2, c3, c4, c5]; rfl) rfl)  (by (simp only [go_sem, ↓reduceIte, Nat.reduceEqDiff, c1, c2, c3, c4, c5] <;> rfl)) (by simp) (by decide) ((refnum_fn hs).mono ?_)
            rintro _ _ ⟨rfl, rfl⟩
            (refine VX (by simp only [go_sem, ↓reduceIte, Nat.reduceEqDiff, Nat.reduceAdd, c1, c2, c3, c4, c5]; rfl) ?_)
            (refine VX (by simp only [go_sem, ↓reduceIte, Nat.reduceEqDiff, Nat.reduceAdd, c1, c2, c3, c4, c5]; rfl) ?_)
            refine WO_nil (W_ret ⟨.inr rfl, _, by (simp only [resultB, resB, parts, V.part, Sl.get_set', ↓reduceIte, Nat.reduceEqDiff, c1, c2, c3, c4, c5] <;> rfl), ?_, n1.up, n1.ok⟩)
            unfold Itm.okB wtI
            simp [c1, c2, c3, c4, c5]
          · refine VN (wantB_no rfl rfl (by simp only [go_sem, ↓reduceIte, Nat.reduceEqDiff, c1, c2, c3, c4, c5]; rfl) rfl) ?_
            refine VN (wantB_no rfl rfl (by simp only [go_sem, ↓reduceIte, Nat.reduceEqDiff, c1, c2, c3, c4, c5]; rfl) rfl) ?_
            refine VN (wantB_no rfl rfl (by simp only [go_sem, ↓reduceIte, Nat.reduceEqDiff, c1, c2, c3, c4, c5]; rfl) rfl) ?_
            (refine VX (by simp only [go_sem, ↓reduceIte, Nat.reduceEqDiff, Nat.reduceAdd, c1, c2, c3, c4, c5]; rfl) ?_)
            (refine VX (by simp only [go_sem, ↓reduceIte, Nat.reduceEqDiff, Nat.reduceAdd, c1, c2, c3, c4, c5]; rfl) ?_)
            refine WO_nil (W_ret ⟨.inr rfl, _, by (simp only [resultB, resB, parts, V.part, Sl.get_set', ↓reduceIte, Nat.reduceEqDiff, c1, c2, c3, c4, c5] <;> rfl), ?_, n1.up, n1.ok⟩)
            unfold Itm.okB wtI
            simp [c1, c2, c3, c4, c5]
        · refine VN (wantB_no rfl rfl (by simp only [go_sem, ↓reduceIte, Nat.reduceEqDiff, c1, c2, c3, c4]; rfl) rfl) ?_
          refine VN (wantB_no rfl rfl (by simp only [go_sem, ↓reduceIte, Nat.reduceEqDiff, c1, c2, c3, c4]; rfl) rfl) ?_
          refine VN (wantB_no rfl rfl (by simp only [go_sem, ↓reduceIte, Nat.reduceEqDiff, c1, c2, c3, c4]; rfl) rfl) ?_
          (refine VX (by simp only [go_sem, ↓reduceIte, Nat.reduceEqDiff, Nat.reduceAdd, c1, c2, c3, c4]; rfl) ?_)
          (refine VX (by simp only [go_sem, ↓reduceIte, Nat.reduceEqDiff, Nat.reduceAdd, c1, c2, c3, c4]; rfl) ?_)
          refine VN (wantB_no rfl rfl (by simp only [go_sem, ↓reduceIte, Nat.reduceEqDiff, c1, c2, c3, c4]; rfl) rfl) ?_
          refine VN (wantB_no rfl rfl (by simp only [go_sem, ↓reduceIte, Nat.reduceEqDiff, c1, c2, c3, c4]; rfl) rfl) ?_
          refine VN (wantB_no rfl rfl (by simp only [go_sem, ↓reduceIte, Nat.reduceEqDiff, c1, c2, c3, c4]; rfl) rfl) ?_
          (refine VX (by simp only [go_sem, ↓reduceIte, Nat.reduceEqDiff, Nat.reduceAdd, c1, c2, c3, c4]; rfl) ?_)
          (refine VX (by simp only [go_sem, ↓reduceIte, Nat.reduceEqDiff, Nat.reduceAdd, c1, c2, c3, c4]; rfl) ?_)
          refine WO_nil (W_ret ⟨.inr rfl, _, by (simp only [resultB, resB, parts, V.part, Sl.get_set', ↓reduceIte, Nat.reduceEqDiff, c1, c2, c3, c4] <;> rfl), ?_, n1.up, n1.ok⟩)
          unfold Itm.okB wtI
          simp [c1, c2, c3, c4]
    · refine VN (wantB_no rfl rfl (by simp only [go_sem, ↓reduceIte, Nat.reduceEqDiff, c1, c2]; rfl) rfl) ?_
      refine VN (wantB_no rfl rfl (by simp only [go_sem, ↓reduceIte, Nat.reduceEqDiff, c1, c2]; rfl) rfl) ?_
      refine VN (wantB_no rfl rfl (by simp only [go_sem, ↓reduceIte, Nat.reduceEqDiff, c1, c2]; rfl) rfl) ?_
      refine VN (wantB_no rfl rfl (by simp only [go_sem, ↓reduceIte, Nat.reduceEqDiff, c1, c2]; rfl) rfl) ?_
      refine VN (wantB_no rfl rfl (by simp only [go_sem, ↓reduceIte, Nat.reduceEqDiff, c1, c2]; rfl) rfl) ?_
      refine VN (wantB_no rfl rfl (by simp only [go_sem, ↓reduceIte, Nat.reduceEqDiff, c1, c2]; rfl) rfl) ?_
      refine VN (wantB_no rfl rfl (by simp only [go_sem, ↓reduceIte, Nat.reduceEqDiff, c1, c2]; rfl) rfl) ?_
      refine VN (wantB_no rfl rfl (by simp only [go_sem, ↓reduceIte, Nat.reduceEqDiff, c1, c2]; rfl) rfl) ?_
      (refine VX (by simp only [go_sem, ↓reduceIte, Nat.reduceEqDiff, Nat.reduceAdd, c1, c2]; rfl) ?_)
      (refine VX (by simp only [go_sem, ↓reduceIte, Nat.reduceEqDiff, Nat.reduceAdd, c1, c2]; rfl) ?_)
      refine VN (wantB_no rfl rfl (by simp only [go_sem, ↓reduceIte, Nat.reduceEqDiff, c1, c2]; rfl) rfl) ?_
      refine VN (wantB_no rfl rfl (by simp only [go_sem, ↓reduceIte, Nat.reduceEqDiff, c1, c2]; rfl) rfl) ?_
      refine VN (wantB_no rfl rfl (by simp only [go_sem, ↓reduceIte, Nat.reduceEqDiff, c1, c2]; rfl) rfl) ?_
      (refine VX (by simp only [go_sem, ↓reduceIte, Nat.reduceEqDiff, Nat.reduceAdd, c1, c2]; rfl) ?_)
      (refine VX (by simp only [go_sem, ↓reduceIte, Nat.reduceEqDiff, Nat.reduceAdd, c1, c2]; rfl) ?_)
      refine VN (wantB_no rfl rfl (by simp only [go_sem, ↓reduceIte, Nat.reduceEqDiff, c1, c2]; rfl) rfl) ?_
      refine VN (wantB_no rfl rfl (by simp only [go_sem, ↓reduceIte, Nat.reduceEqDiff, c1, c2]; rfl) rfl) ?_
      refine VN (wantB_no rfl rfl (by simp only [go_sem, ↓reduceIte, Nat.reduceEqDiff, c1, c2]; rfl) rfl) ?_
      (refine VX (by simp only [go_sem, ↓reduceIte, Nat.reduceEqDiff, Nat.reduceAdd, c1, c2]; rfl) ?_)
      (refine VX (by simp only [go_sem, ↓reduceIte, Nat.reduceEqDiff, Nat.reduceAdd, c1, c2]; rfl) ?_)
      refine WO_nil (W_ret ⟨.inr rfl, _, by (simp only [resultB, resB, parts, V.part, Sl.get_set', ↓reduceIte, Nat.reduceEqDiff, c1, c2] <;> rfl), ?_, n1.up, n1.ok⟩)
      unfold Itm.okB wtI
      simp [c1, c2]
  · refine VN (wantB_no rfl rfl (by simp only [go_sem, ↓reduceIte, Nat.reduceEqDiff, c1]; rfl) rfl) ?_
    refine VN (wantB_no rfl rfl (by simp only [go_sem, ↓reduceIte, Nat.reduceEqDiff, c1]; rfl) rfl) ?_
    refine VN (wantB_no rfl rfl (by simp only [go_sem, ↓reduceIte, Nat.reduceEqDiff, c1]; rfl) rfl) ?_
    (refine VX (by simp only [go_sem, ↓reduceIte, Nat.reduceEqDiff, Nat.reduceAdd, c1]; rfl) ?_)
    (refine VX (by simp only [go_sem, ↓reduceIte, Nat.reduceEqDiff, Nat.reduceAdd, c1]; rfl) ?_)
    refine VN (wantB_no rfl rfl (by simp only [go_sem, ↓reduceIte, Nat.reduceEqDiff, c1]; rfl) rfl) ?_
    refine VN (wantB_no rfl rfl (by simp only [go_sem, ↓reduceIte, Nat.reduceEqDiff, c1]; rfl) rfl) ?_
    refine VN (wantB_no rfl rfl (by simp only [go_sem, ↓reduceIte, Nat.reduceEqDiff, c1]; rfl) rfl) ?_
    refine VN (wantB_no rfl rfl (by simp only [go_sem, ↓reduceIte, Nat.reduceEqDiff, c1]; rfl) rfl) ?_
    refine VN (wantB_no rfl rfl (by simp only [go_sem, ↓reduceIte, Nat.reduceEqDiff, c1]; rfl) rfl) ?_
    refine VN (wantB_no rfl rfl (by simp only [go_sem, ↓reduceIte, Nat.reduceEqDiff, c1]; rfl) rfl) ?_
    refine VN (wantB_no rfl rfl (by simp only [go_sem, ↓reduceIte, Nat.reduceEqDiff, c1]; rfl) rfl) ?_
    refine VN (wantB_no rfl rfl (by simp only [go_sem, ↓reduceIte, Nat.reduceEqDiff, c1]; rfl) rfl) ?_
    (refine VX (by simp only [go_sem, ↓reduceIte, Nat.reduceEqDiff, Nat.reduceAdd, c1]; rfl) ?_)
    (refine VX (by simp only [go_sem, ↓reduceIte, Nat.reduceEqDiff, Nat.reduceAdd, c1]; rfl) ?_)
    refine VN (wantB_no rfl rfl (by simp only [go_sem, ↓reduceIte, Nat.reduceEqDiff, c1]; rfl) rfl) ?_
    refine VN (wantB_no rfl rfl (by simp only [go_sem, ↓reduceIte, Nat.reduceEqDiff, c1]; rfl) rfl) ?_
    refine VN (wantB_no rfl rfl (by simp only [go_sem, ↓reduceIte, Nat.reduceEqDiff, c1]; rfl) rfl) ?_
    (refine VX (by simp only [go_sem, ↓reduceIte, Nat.reduceEqDiff, Nat.reduceAdd, c1]; rfl) ?_)
    (refine VX (by simp only [go_sem, ↓reduceIte, Nat.reduceEqDiff, Nat.reduceAdd, c1]; rfl) ?_)
    refine VN (wantB_no rfl rfl (by simp only [go_sem, ↓reduceIte, Nat.reduceEqDiff, c1]; rfl) rfl) ?_
    refine VN (wantB_no rfl rfl (by simp only [go_sem, ↓reduceIte, Nat.reduceEqDiff, c1]; rfl) rfl) ?_
    refine VN (wantB_no rfl rfl (by simp only [go_sem, ↓reduceIte, Nat.reduceEqDiff, c1]; rfl) rfl) ?_
    (refine VX (by simp only [go_sem, ↓reduceIte, Nat.reduceEqDiff, Nat.reduceAdd, c1]; rfl) ?_)
    (refine VX (by simp only [go_sem, ↓reduceIte, Nat.reduceEqDiff, Nat.reduceAdd, c1]; rfl) ?_)
    refine WO_nil (W_ret ⟨.inr rfl, _, by (simp only [resultB, resB, parts, V.part, Sl.get_set', ↓reduceIte, Nat.reduceEqDiff, c1] <;> rfl), ?_, n1.up, n1.ok⟩)
    unfold Itm.okB wtI
    simp [c1]
set_option maxHeartbeats 0 in
theorem refweight_fn {spec : CallF} (hs : SpecRef spec) {h : H} {x : Itm} {G : Bool} (kx : x.ok) (ok : Ok h) :
    WF Try.prog spec 44 [.agg x.cells, .one (.b G)] h fun v h1 => v = .one (.i .i64 (x.weight G)) ∧ Up (· < h.next) h h1 ∧ h1.next = h.next + 1 ∧ Ok h1 := by
  obtain ⟨hm1, hm2⟩ := kx.mul
  refine WF_of Try.func44 rfl (hs.s44 _ _) (by rw [Try.ntmps44]; simp) (by rw [Try.ntmps44]; decide) ?_
  rw [Try.ntmps44, Try.results44]
  simp only [Sl.setMany_cons, Sl.setMany_nil, Nat.zero_add, Nat.reduceAdd]
  (repeat refine W_seq ?_); refine W_region ?_
  refine WO_boxA (ee) ok (by decide) fun h1 n1 => ?_
  have c1 := n1.cells
  unfold Itm.cells at c1
  (refine VO ?_)
  refine WO_nil ?_; (repeat refine W_seq ?_)
  refine W_region ?_
  (refine VO ?_)
  refine WO_nil ?_; (repeat refine W_seq ?_)
  refine W_cond (ee) ?_ ?_
  · rintro rfl
    (repeat refine W_seq ?_); refine W_region ?_
    iterate 3 (first | (refine VO ?_) | (refine VX (by simp (disch := first | omega | simp) only [go_sem, ↓reduceIte, Nat.reduceEqDiff, Nat.reduceAdd, c1.row]; rfl) ?_))
    exact WO_nil (W_ret ⟨.inr rfl, _, by (simp only [resultB, resB, parts, V.part, Sl.get_set', ↓reduceIte, Nat.reduceEqDiff] <;> rfl), rfl, n1.up, n1.next, n1.ok⟩)
  · rintro rfl
    refine W_skip ?_
    (repeat refine W_seq ?_); refine W_region ?_
    iterate 10 (first | (refine VO ?_) | (refine VX (by simp (disch := first | omega | simp) only [go_sem, ↓reduceIte, Nat.reduceEqDiff, Nat.reduceAdd, c1.row]; rfl) ?_) | (refine VX (ex_bin ee ee in_mul) ?_; (try rw [wrap_id (by omega) (by omega)])) | (refine VX (ex_bin ee ee in_add) ?_; (try rw [wrap_id (by omega) (by omega)])) | (refine VX (ex_bin ee ee in_sub) ?_; (try rw [wrap_id (by omega) (by omega)])) | (refine VX (ex_quo (by simp only [go_sem, ↓reduceIte, Nat.reduceEqDiff]; rfl) (by simp only [go_sem, ↓reduceIte, Nat.reduceEqDiff]; rfl) (by first | decide | assumption)) ?_; (try rw [wrap_id (by omega) (by omega)])) | (refine VX (ex_min (by simp only [go_sem, ↓reduceIte, Nat.reduceEqDiff]; rfl) (by simp only [go_sem, ↓reduceIte, Nat.reduceEqDiff]; rfl)) ?_))
    refine WO_nil (W_ret ⟨.inr rfl, _, by (simp only [resultB, resB, parts, V.part, Sl.get_set', ↓reduceIte, Nat.reduceEqDiff] <;> rfl), ?_, n1.up, n1.next, n1.ok⟩)
    have e : (x.sh * x.base + 64 + -1).tdiv 64 = (x.sh * x.base + 63) / 64 := by rw [Int.tdiv_eq_ediv_of_nonneg (by omega)]; congr 1; omega
    rw [e, wrap_id (by omega) (by omega)]
    unfold Itm.weight
    rw [if_neg (by decide), Int.min_comm]
set_option maxHeartbeats 0 in
theorem reflength_fn {spec : CallF} (hs : SpecRef spec) {h : H} {v : S} {l : List Int} {gap : Int} (hi : IntsAt h v l) (hn : l.length ≤ 1000) (hl : ∀ x ∈ l, -1099511627776 ≤ x ∧ x ≤ 1099511627776) (hgap : -1099511627776 ≤ gap ∧ gap ≤ 1099511627776) :
    WF Try.prog spec 43 [.one v, .one (.i .i64 gap)] h fun r h1 => r = .one (.i .i64 (sumI l gap)) ∧ h1 = h := by
  refine WF_of Try.func43 rfl (hs.s43 _ _) (by rw [Try.ntmps43]; simp) (by rw [Try.ntmps43]; decide) ?_
  rw [Try.ntmps43, Try.results43]
  simp only [Sl.setMany_cons, Sl.setMany_nil, Nat.zero_add, Nat.reduceAdd]
  (repeat refine W_seq ?_); refine W_region ?_
  (refine VO ?_)
  refine WO_nil ?_; (repeat refine W_seq ?_)
  refine W_region ?_
  (refine VO ?_)
  refine WO_nil ?_; (repeat refine W_seq ?_)
  refine W_region ?_
  (refine VO ?_)
  refine WO_nil ?_; (repeat refine W_seq ?_)
  refine W_block (W_rounds (fun j T h1 => ∃ k, j = l.length - k ∧ k ≤ l.length ∧ h1 = h ∧ T.get 0 = some (.one v) ∧ T.get 1 = some (.one (.i .i64 gap)) ∧ T.get 5 = some (.one (.i .i64 ((l.take k).foldl (lineF gap) (false, 0)).2)) ∧ T.get 6 = some (.one (.i .i64 (k : Int)))) ?_ l.length _ _ ⟨0, rfl, Nat.zero_le _, rfl, gs, gs, gs, gs⟩)
  rintro j T h1 ⟨k, rfl, hk, rfl, t0, t1, t5, t6⟩
  (repeat refine W_seq ?_); refine W_region ?_
  iterate 2 (refine VX (by simp only [go_sem, ↓reduceIte, Nat.reduceEqDiff, Nat.reduceAdd, t0, t6]; rfl) ?_)
  refine WO_val (hi.len (ee)) (by decide) ?_
  (refine VX (ex_bin (by simp only [go_sem, ↓reduceIte, Nat.reduceEqDiff, t6]; rfl) (by simp only [go_sem, ↓reduceIte, Nat.reduceEqDiff, t6]; rfl) in_lss) ?_)
  refine WO_nil ?_; (repeat refine W_seq ?_)
  refine W_cond (ee) (fun hlt => W_skip ?_) (fun hge => W_exit ?_)
  · have hlt : (k : Int) < (l.length : Int) := by simpa using hlt
    have hlt : k < l.length := by omega
    obtain ⟨b, c, ex, rfl, hbn, hrows⟩ : ∃ b c ex, v = .sl b 0 l.length c 1 ex ∧ b < h1.next ∧ ∀ k x, l[k]? = some x → h1.row b k 1 = some [.i .i64 x] := by
      rcases hi with ⟨rfl, _⟩ | q
      · simp at hlt
      · exact q
    obtain ⟨y, hy⟩ : ∃ y, l[k]? = some y := ⟨_, List.getElem?_eq_getElem hlt⟩
    have hyb := hl y (List.mem_of_getElem? hy)
    have r1 := hrows k y hy
    have hacc := lineF_in (gap := gap) (l := l.take k) (p := (false, 0)) (by simp)
    have hstep := lineF_take (gap := gap) hy
    have hfst : ((l.take k).foldl (lineF gap) (false, 0)).1 = decide (0 < k) := by
      by_cases h0 : k = 0
      · subst h0; rfl
      · rw [lineF_fst gap _ _ (List.ne_nil_of_length_pos (by rw [List.length_take]; omega)), decide_eq_true (by omega)]
    generalize (l.take k).foldl (lineF gap) (false, 0) = p at *
    have hsin := satI_in (p.2 + gap)
    repeat refine W_seq ?_
    refine W_block ?_
    (repeat refine W_seq ?_); refine W_region ?_
    (refine VX (by simp only [go_sem, ↓reduceIte, Nat.reduceEqDiff, Nat.reduceAdd, t6]; rfl) ?_)
    (refine VX (ex_bin (by simp only [go_sem, ↓reduceIte, Nat.reduceEqDiff, t6]; rfl) (by simp only [go_sem, ↓reduceIte, Nat.reduceEqDiff, t6]; rfl) in_gtr) ?_)
    refine WO_nil ?_; (repeat refine W_seq ?_)
    refine W_cond (ee) (fun hc => ?_) (fun hc => W_skip ?_)
    · have hc : 0 < k := by have : (0 : Int) < (k : Int) := by simpa using hc
                            omega
      refine W_region ?_
      iterate 2 (refine VX (by simp only [go_sem, ↓reduceIte, Nat.reduceEqDiff, Nat.reduceAdd, t1, t5]; rfl) ?_)
      refine WO_fn (ee) (by simp) (by decide) ((refadd_fn hs (by omega) (by omega)).mono ?_)
      rintro _ h1 ⟨rfl, rfl⟩
      (refine VO ?_)
      refine WO_nil ?_; (repeat refine W_seq ?_)
      refine W_region ?_
      iterate 3 (refine VX (by simp only [go_sem, ↓reduceIte, Nat.reduceEqDiff, Nat.reduceAdd, t0, t6]; rfl) ?_)
      (refine VX (by simp (disch := first | omega | simp) only [go_sem, ↓reduceIte, Nat.reduceEqDiff, Nat.reduceAdd, t0, t6]; rfl) ?_)
      (refine VX (by simp (disch := first | omega | simp) only [go_sem, ↓reduceIte, Nat.reduceEqDiff, Nat.reduceAdd, r1, t0, t6]; rfl) ?_)
      refine WO_fn (ee) (by simp) (by decide) ((refadd_fn hs (by omega) (by omega)).mono ?_)
      rintro _ h1 ⟨rfl, rfl⟩
      (refine VO ?_)
      refine WO_nil ?_; (repeat refine W_seq ?_)
      refine W_region ?_
      iterate 3 (first | (refine VX (by simp only [go_sem, ↓reduceIte, Nat.reduceEqDiff, Nat.reduceAdd, t6]; rfl) ?_) | (refine VX (ex_bin (by simp only [go_sem, ↓reduceIte, Nat.reduceEqDiff, t6]; rfl) (by simp only [go_sem, ↓reduceIte, Nat.reduceEqDiff, t6]; rfl) in_add) ?_; (try rw [wrap_id (by omega) (by omega)])))
      refine WO_nil ⟨l.length - (k + 1), by omega, k + 1, rfl, hlt, rfl, gt t0, gt t1, ?_, gs⟩
      rw [hstep]
      unfold lineF
      rw [hfst, decide_eq_true hc]
      simp only [go_sem, ↓reduceIte, Nat.reduceEqDiff]
    · have hc : k = 0 := by have : ¬ (0 : Int) < (k : Int) := by simpa using hc
                            omega
      refine W_region ?_
      iterate 3 (refine VX (by simp only [go_sem, ↓reduceIte, Nat.reduceEqDiff, Nat.reduceAdd, t0, t5, t6]; rfl) ?_)
      (refine VX (by simp (disch := first | omega | simp) only [go_sem, ↓reduceIte, Nat.reduceEqDiff, Nat.reduceAdd, t0, t5, t6]; rfl) ?_)
      (refine VX (by simp (disch := first | omega | simp) only [go_sem, ↓reduceIte, Nat.reduceEqDiff, Nat.reduceAdd, r1, t0, t5, t6]; rfl) ?_)
      refine WO_fn (ee) (by simp) (by decide) ((refadd_fn hs (by omega) (by omega)).mono ?_)
      rintro _ h1 ⟨rfl, rfl⟩
      (refine VO ?_)
      refine WO_nil ?_; (repeat refine W_seq ?_)
      refine W_region ?_
      iterate 3 (first | (refine VX (by simp only [go_sem, ↓reduceIte, Nat.reduceEqDiff, Nat.reduceAdd, t6]; rfl) ?_) | (refine VX (ex_bin (by simp only [go_sem, ↓reduceIte, Nat.reduceEqDiff, t6]; rfl) (by simp only [go_sem, ↓reduceIte, Nat.reduceEqDiff, t6]; rfl) in_add) ?_; (try rw [wrap_id (by omega) (by omega)])))
      refine WO_nil ⟨l.length - (k + 1), by omega, k + 1, rfl, hlt, rfl, gt t0, gt t1, ?_, gs⟩
      rw [hstep]
      unfold lineF
      rw [hfst, decide_eq_false (show ¬ 0 < k by omega)]
      simp only [go_sem, ↓reduceIte, Nat.reduceEqDiff]
      rfl
  · have hge : ¬ (k : Int) < (l.length : Int) := by simpa using hge
    have hk : k = l.length := by omega
    subst hk
    rw [List.take_length] at t5
    refine ⟨fun _ => ?_, fun hne => absurd rfl hne⟩
    (repeat refine W_seq ?_); refine W_region ?_
    iterate 2 (refine VX (by simp only [go_sem, ↓reduceIte, Nat.reduceEqDiff, Nat.reduceAdd, t5]; rfl) ?_)
    exact WO_nil (W_ret ⟨.inr rfl, _, by (simp only [resultB, resB, parts, V.part, Sl.get_set', ↓reduceIte, Nat.reduceEqDiff] <;> rfl), rfl, rfl⟩)
set_option maxHeartbeats 0 in
theorem mayres_fn {spec : CallF} (hs : SpecRef spec) {h : H} {v : S} {L : List Itm} {gap room : Int} (ok : Ok h) (hi : ItemsAt h v L) (hn : L.length ≤ 1000) :
    WF Try.prog spec 23 [.one v, .one (.i .i64 gap), .one (.i .i64 room)] h fun r h1 => r = .one (.b (resOk L gap room)) ∧ Up (· < h.next) h h1 ∧ Ok h1 := by
  refine WF_of Try.func23 rfl (hs.s23 _ _) (by rw [Try.ntmps23]; simp) (by rw [Try.ntmps23]; decide) ?_
  rw [Try.ntmps23, Try.results23]
  simp only [Sl.setMany_cons, Sl.setMany_nil, Nat.zero_add, Nat.reduceAdd]
  (repeat refine W_seq ?_); refine W_region ?_
  (refine VO ?_)
  refine WO_nil ?_; (repeat refine W_seq ?_)
  refine W_region ?_
  (refine VO ?_)
  refine WO_nil ?_; (repeat refine W_seq ?_)
  refine W_block (W_rounds (fun j T h1 => ∃ k, j = L.length - k ∧ k ≤ L.length ∧ T.get 0 = some (.one v) ∧ T.get 1 = some (.one (.i .i64 gap)) ∧ T.get 2 = some (.one (.i .i64 room)) ∧ T.get 7 = some (.one (.i .i64 (k : Int))) ∧ (L.take k).all Itm.okB = true ∧ Up (· < h.next) h h1 ∧ Ok h1) ?_ L.length _ _ ⟨0, rfl, Nat.zero_le _, gs, gs, gs, gs, rfl, .refl _ _, ok⟩)
  rintro j T h1 ⟨k, rfl, hk, t0, t1, t2, t7, hall, u1, o1⟩
  have hn1 := u1.next
  (repeat refine W_seq ?_); refine W_region ?_
  iterate 2 (refine VX (by simp only [go_sem, ↓reduceIte, Nat.reduceEqDiff, Nat.reduceAdd, t0, t7]; rfl) ?_)
  refine WO_val (hi.len (ee)) (by decide) ?_
  (refine VX (ex_bin (by simp only [go_sem, ↓reduceIte, Nat.reduceEqDiff, t7]; rfl) (by simp only [go_sem, ↓reduceIte, Nat.reduceEqDiff, t7]; rfl) in_lss) ?_)
  refine WO_nil ?_; (repeat refine W_seq ?_)
  refine W_cond (ee) (fun hlt => W_skip ?_) (fun hge => W_exit ?_)
  · have hlt : (k : Int) < (L.length : Int) := by simpa using hlt
    have hlt : k < L.length := by omega
    obtain ⟨y, hy⟩ : ∃ y, L[k]? = some y := ⟨_, List.getElem?_eq_getElem hlt⟩
    obtain ⟨b, o, c, ex, rfl, hbn, hrows⟩ : ∃ b o c ex, v = .sl b o L.length c 5 ex ∧ b < h.next ∧ ∀ k x, L[k]? = some x → h.row b (o + k * 5) 5 = some x.cells := by
      rcases hi with ⟨rfl, _⟩ | q
      · simp at hlt
      · exact q
    have r1 : h1.row b (o + k * 5) 5 = some y.cells := by rw [u1.row hbn]; exact hrows k y hy
    have ht := okB_take hy
    rw [hall, Bool.true_and] at ht
    repeat refine W_seq ?_
    refine W_block ?_
    (repeat refine W_seq ?_); refine W_region ?_
    iterate 2 (refine VX (by simp only [go_sem, ↓reduceIte, Nat.reduceEqDiff, Nat.reduceAdd, t0, t7]; rfl) ?_)
    (refine VX (by simp (disch := first | omega | simp) only [go_sem, ↓reduceIte, Nat.reduceEqDiff, Nat.reduceAdd, t0, t7]; rfl) ?_)
    (refine VX (by simp (disch := first | omega | simp) only [go_sem, ↓reduceIte, Nat.reduceEqDiff, Nat.reduceAdd, r1, t0, t7]; rfl) ?_)
    refine WO_fn (ee) (by simp) (by decide) ((refitem_fn hs o1).mono ?_)
    rintro w h2 ⟨rfl, u2, o2⟩
    have u02 := u1.trans (u2.mono fun b hb => by omega)
    (refine VX (ex_not (by simp only [go_sem, ↓reduceIte, Nat.reduceEqDiff]; rfl)) ?_)
    refine WO_nil ?_; (repeat refine W_seq ?_)
    refine W_cond (ee) (fun hc => ?_) (fun hc => W_skip ?_)
    · have hc : y.okB = false := by simpa using hc
      (repeat refine W_seq ?_); refine W_region ?_
      (refine VO ?_)
      refine WO_nil (W_ret ⟨.inr rfl, _, by (simp only [resultB, resB, parts, V.part, Sl.get_set', ↓reduceIte, Nat.reduceEqDiff] <;> rfl), ?_, u02, o2⟩)
      have : L.all Itm.okB = false := by
        rw [List.all_eq_false]
        exact ⟨y, List.mem_of_getElem? hy, by rw [hc]; decide⟩
      unfold resOk
      rw [this, Bool.and_false]
    · have hc : y.okB = true := by simpa using hc
      refine W_region ?_
      iterate 3 (first | (refine VX (by simp only [go_sem, ↓reduceIte, Nat.reduceEqDiff, Nat.reduceAdd, t7]; rfl) ?_) | (refine VX (ex_bin (by simp only [go_sem, ↓reduceIte, Nat.reduceEqDiff, t7]; rfl) (by simp only [go_sem, ↓reduceIte, Nat.reduceEqDiff, t7]; rfl) in_add) ?_; (try rw [wrap_id (by omega) (by omega)])))
      exact WO_nil ⟨L.length - (k + 1), by omega, k + 1, rfl, hlt, gt t0, gt t1, gt t2, gs, by rw [ht, hc], u02, o2⟩
  · have hge : ¬ (k : Int) < (L.length : Int) := by simpa using hge
    have hk : k = L.length := by omega
    rw [hk, List.take_length] at hall
    refine ⟨fun _ => ?_, fun hne => absurd rfl hne⟩
    (repeat refine W_seq ?_); refine W_region ?_
    (refine VX (by simp only [go_sem, ↓reduceIte, Nat.reduceEqDiff, Nat.reduceAdd, t0]; rfl) ?_)
    refine WO_val (hi.len (ee)) (by decide) ?_
    (refine VX (ex_bin (by simp only [go_sem, ↓reduceIte, Nat.reduceEqDiff, t1, t2]; rfl) (by simp only [go_sem, ↓reduceIte, Nat.reduceEqDiff, t1, t2]; rfl) in_leq) ?_)
    (refine VX (by simp only [go_sem, ↓reduceIte, Nat.reduceEqDiff, Nat.reduceAdd, t1, t2]; rfl) ?_)
    refine WO_grd rfl rfl (by simp only [go_sem, ↓reduceIte, Nat.reduceEqDiff, t1, t2]; rfl) (fun c1 => ?_) (fun c1 => ?_)
    · (refine VG (wantB_true rfl rfl (by simp only [go_sem, ↓reduceIte, Nat.reduceEqDiff, t1, t2, c1]; rfl) rfl) (by simp only [go_sem, ↓reduceIte, Nat.reduceEqDiff, Nat.reduceAdd, t1, t2, c1]; rfl) ?_)
      refine WO_fnG (wantB_true rfl rfl (by simp only [go_sem, ↓reduceIte, Nat.reduceEqDiff, t1, t2, c1]; rfl) rfl)  (by (simp only [go_sem, ↓reduceIte, Nat.reduceEqDiff, t1, t2, c1] <;> rfl)) (by simp) (by decide) ((refsize_fn hs).mono ?_)
      rintro _ _ ⟨rfl, rfl⟩
      (refine VX (by simp only [go_sem, ↓reduceIte, Nat.reduceEqDiff, Nat.reduceAdd, t1, t2, c1]; rfl) ?_)
      (refine VX (by simp only [go_sem, ↓reduceIte, Nat.reduceEqDiff, Nat.reduceAdd, t1, t2, c1]; rfl) ?_)
      refine WO_grd rfl rfl (by simp only [go_sem, ↓reduceIte, Nat.reduceEqDiff, t1, t2, c1]; rfl) (fun c2 => ?_) (fun c2 => ?_)
      · (refine VG (wantB_true rfl rfl (by simp only [go_sem, ↓reduceIte, Nat.reduceEqDiff, t1, t2, c1, c2]; rfl) rfl) (by simp only [go_sem, ↓reduceIte, Nat.reduceEqDiff, Nat.reduceAdd, t1, t2, c1, c2]; rfl) ?_)
        refine WO_fnG (wantB_true rfl rfl (by simp only [go_sem, ↓reduceIte, Nat.reduceEqDiff, t1, t2, c1, c2]; rfl) rfl)  (by (simp only [go_sem, ↓reduceIte, Nat.reduceEqDiff, t1, t2, c1, c2] <;> rfl)) (by simp) (by decide) ((refsize_fn hs).mono ?_)
        rintro _ _ ⟨rfl, rfl⟩
        (refine VX (by simp only [go_sem, ↓reduceIte, Nat.reduceEqDiff, Nat.reduceAdd, t1, t2, c1, c2]; rfl) ?_)
        (refine VX (by simp only [go_sem, ↓reduceIte, Nat.reduceEqDiff, Nat.reduceAdd, t1, t2, c1, c2]; rfl) ?_)
        refine WO_nil (W_ret ⟨.inr rfl, _, by (simp only [resultB, resB, parts, V.part, Sl.get_set', ↓reduceIte, Nat.reduceEqDiff, c1, c2] <;> rfl), ?_, u1, o1⟩)
        unfold resOk
        rw [hall]
        simp [c1, c2]
      · refine VN (wantB_no rfl rfl (by simp only [go_sem, ↓reduceIte, Nat.reduceEqDiff, t1, t2, c1, c2]; rfl) rfl) ?_
        refine VN (wantB_no rfl rfl (by simp only [go_sem, ↓reduceIte, Nat.reduceEqDiff, t1, t2, c1, c2]; rfl) rfl) ?_
        (refine VX (by simp only [go_sem, ↓reduceIte, Nat.reduceEqDiff, Nat.reduceAdd, t1, t2, c1, c2]; rfl) ?_)
        (refine VX (by simp only [go_sem, ↓reduceIte, Nat.reduceEqDiff, Nat.reduceAdd, t1, t2, c1, c2]; rfl) ?_)
        refine WO_nil (W_ret ⟨.inr rfl, _, by (simp only [resultB, resB, parts, V.part, Sl.get_set', ↓reduceIte, Nat.reduceEqDiff, c1, c2] <;> rfl), ?_, u1, o1⟩)
        unfold resOk
        rw [hall]
        simp [c1, c2]
    · refine VN (wantB_no rfl rfl (by simp only [go_sem, ↓reduceIte, Nat.reduceEqDiff, t1, t2, c1]; rfl) rfl) ?_
      refine VN (wantB_no rfl rfl (by simp only [go_sem, ↓reduceIte, Nat.reduceEqDiff, t1, t2, c1]; rfl) rfl) ?_
      (refine VX (by simp only [go_sem, ↓reduceIte, Nat.reduceEqDiff, Nat.reduceAdd, t1, t2, c1]; rfl) ?_)
      (refine VX (by simp only [go_sem, ↓reduceIte, Nat.reduceEqDiff, Nat.reduceAdd, t1, t2, c1]; rfl) ?_)
      refine VN (wantB_no rfl rfl (by simp only [go_sem, ↓reduceIte, Nat.reduceEqDiff, t1, t2, c1]; rfl) rfl) ?_
      refine VN (wantB_no rfl rfl (by simp only [go_sem, ↓reduceIte, Nat.reduceEqDiff, t1, t2, c1]; rfl) rfl) ?_
      (refine VX (by simp only [go_sem, ↓reduceIte, Nat.reduceEqDiff, Nat.reduceAdd, t1, t2, c1]; rfl) ?_)
      (refine VX (by simp only [go_sem, ↓reduceIte, Nat.reduceEqDiff, Nat.reduceAdd, t1, t2, c1]; rfl) ?_)
      refine WO_nil (W_ret ⟨.inr rfl, _, by (simp only [resultB, resB, parts, V.part, Sl.get_set', ↓reduceIte, Nat.reduceEqDiff, c1] <;> rfl), ?_, u1, o1⟩)
      unfold resOk
      rw [hall]
      simp [c1]
end Go.Ai
