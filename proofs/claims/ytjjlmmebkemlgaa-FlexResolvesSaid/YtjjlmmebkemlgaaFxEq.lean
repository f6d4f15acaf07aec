/-
Lists of numbers compared; plain sizes by the reference; small ones.
-/
import Derived.Test.YtjjlmmebkemlgaaFxResolve
set_option linter.unusedVariables false
set_option linter.unusedSimpArgs false
namespace Go.Ai
open Go.Proofs

open Lf (rd)
theorem IntsAt.len {h h1 : H} {v : S} {l : List Int} (hi : IntsAt h v l) {T : Sl} {x : Operand} (hx : ev T x = some (.one v)) {d : Option Tmp} {ty : TypeId} {ps : String} {af : Array Edge} {g : Option (Nat × Bool)} : execO Try.prog T h1 ⟨d, .call ⟨.builtin .len, #[x], #[23]⟩, ty, ps, af, g⟩ = some (.val (.one (.i .i64 (l.length : Int))) h1) := by
  rcases hi with ⟨rfl, rfl⟩ | ⟨b, c, ex, rfl, _⟩
  · exact ex_len0 el23 hx
  · exact ex_len el23 hx
theorem take_eq {a b : List Int} {k : Nat} (hl : a.length = b.length) (hk : k < a.length) (h : a.take k = b.take k) : (a.take (k + 1) = b.take (k + 1)) ↔ rd a k = rd b k := by
  rw [List.take_succ_eq_append_getElem hk, List.take_succ_eq_append_getElem (by omega), h]
  unfold rd
  rw [Int.toNat_natCast, List.getD_eq_getElem?_getD, List.getD_eq_getElem?_getD, List.getElem?_eq_getElem hk, List.getElem?_eq_getElem (by omega)]
  simp only [Option.getD_some, List.append_cancel_left_eq, List.cons.injEq, and_true]
/-- None of these is told ahead. -/
structure SpecEq (spec : CallF) : Prop where
  s17 : ∀ args h, spec 17 args h = none
  s24 : ∀ args h, spec 24 args h = none
  s26 : ∀ args h, spec 26 args h = none
  s27 : ∀ args h, spec 27 args h = none
  s28 : ∀ args h, spec 28 args h = none
  s31 : ∀ args h, spec 31 args h = none
  s45 : ∀ args h, spec 45 args h = none
set_option maxHeartbeats 0 in
theorem num_fn {spec : CallF} (hs : SpecEq spec) {h : H} {x : Int} :
    WF Try.prog spec 24 [.one (.i .i64 x)] h fun v h1 => v = .one (.i .i64 x) ∧ h1 = h := by
  refine WF_of Try.func24 rfl (hs.s24 _ _) (by rw [Try.ntmps24]; simp) (by rw [Try.ntmps24]; decide) ?_
  rw [Try.ntmps24, Try.results24]
  simp only [Sl.setMany_cons, Sl.setMany_nil, Nat.zero_add, Nat.reduceAdd]
  (repeat refine W_seq ?_); refine W_region ?_
  (refine VO ?_)
  refine WO_nil ?_; (repeat refine W_seq ?_)
  refine W_region ?_
  iterate 2 (refine VO ?_)
  exact WO_nil (W_ret ⟨.inr rfl, _, by (simp only [resultB, resB, parts, V.part, Sl.get_set', ↓reduceIte, Nat.reduceEqDiff] <;> rfl), rfl, rfl⟩)
set_option maxHeartbeats 0 in
theorem coord_fn {spec : CallF} (hs : SpecEq spec) {h : H} {x : Int} :
    WF Try.prog spec 28 [.one (.i .i64 x)] h fun v h1 => v = .one (.b (!decide (x < -1099511627776) && !decide (1099511627776 < x))) ∧ h1 = h := by
  refine WF_of Try.func28 rfl (hs.s28 _ _) (by rw [Try.ntmps28]; simp) (by rw [Try.ntmps28]; decide) ?_
  rw [Try.ntmps28, Try.results28]
  simp only [Sl.setMany_cons, Sl.setMany_nil, Nat.zero_add, Nat.reduceAdd]
  (repeat refine W_seq ?_); refine W_region ?_
  (refine VO ?_)
  refine WO_nil ?_; (repeat refine W_seq ?_)
  refine W_region ?_
  (refine VO ?_)
  (refine VX (ex_bin ee ee in_geq) ?_)
  (refine VO ?_)
  refine WO_grd rfl rfl (by simp only [go_sem, ↓reduceIte, Nat.reduceEqDiff]; rfl) (fun c1 => ?_) (fun c1 => ?_)
  · (refine VG (wantB_true rfl rfl (by simp only [go_sem, ↓reduceIte, Nat.reduceEqDiff, c1]; rfl) rfl) (by simp only [go_sem, ↓reduceIte, Nat.reduceEqDiff, Nat.reduceAdd, c1]; rfl) ?_)
    (refine VG (wantB_true rfl rfl (by simp only [go_sem, ↓reduceIte, Nat.reduceEqDiff, c1]; rfl) rfl) (ex_bin (by simp only [go_sem, ↓reduceIte, Nat.reduceEqDiff, c1]; rfl) (by simp only [go_sem, ↓reduceIte, Nat.reduceEqDiff, c1]; rfl) in_leq) ?_)
    (refine VX (by simp only [go_sem, ↓reduceIte, Nat.reduceEqDiff, Nat.reduceAdd, c1]; rfl) ?_)
    (refine VX (by simp only [go_sem, ↓reduceIte, Nat.reduceEqDiff, Nat.reduceAdd, c1]; rfl) ?_)
    refine WO_nil (W_ret ⟨.inr rfl, _, by (simp only [resultB, resB, parts, V.part, Sl.get_set', ↓reduceIte, Nat.reduceEqDiff, c1] <;> rfl), ?_, rfl⟩)
    simp [c1]
  · refine VN (wantB_no rfl rfl (by simp only [go_sem, ↓reduceIte, Nat.reduceEqDiff, c1]; rfl) rfl) ?_
    refine VN (wantB_no rfl rfl (by simp only [go_sem, ↓reduceIte, Nat.reduceEqDiff, c1]; rfl) rfl) ?_
    (refine VX (by simp only [go_sem, ↓reduceIte, Nat.reduceEqDiff, Nat.reduceAdd, c1]; rfl) ?_)
    (refine VX (by simp only [go_sem, ↓reduceIte, Nat.reduceEqDiff, Nat.reduceAdd, c1]; rfl) ?_)
    refine WO_nil (W_ret ⟨.inr rfl, _, by (simp only [resultB, resB, parts, V.part, Sl.get_set', ↓reduceIte, Nat.reduceEqDiff, c1] <;> rfl), ?_, rfl⟩)
    simp [c1]
set_option maxHeartbeats 0 in
theorem clamp_fn {spec : CallF} (hs : SpecEq spec) {h : H} {x lo hi : Int} :
    WF Try.prog spec 45 [.one (.i .i64 x), .one (.i .i64 lo), .one (.i .i64 hi)] h fun v h1 => v = .one (.i .i64 (clampI x lo hi)) ∧ h1 = h := by
  refine WF_of Try.func45 rfl (hs.s45 _ _) (by rw [Try.ntmps45]; simp) (by rw [Try.ntmps45]; decide) ?_
  rw [Try.ntmps45, Try.results45]
  simp only [Sl.setMany_cons, Sl.setMany_nil, Nat.zero_add, Nat.reduceAdd]
  (repeat refine W_seq ?_); refine W_region ?_
  (refine VO ?_)
  refine WO_nil ?_; (repeat refine W_seq ?_)
  refine W_region ?_
  (refine VO ?_)
  (refine VX (ex_bin ee ee in_neq) ?_)
  refine WO_nil ?_; (repeat refine W_seq ?_)
  refine W_cond (ee) (fun hg => ?_) (fun hg => W_skip ?_)
  · have hg : hi ≠ -1 := by simpa using hg
    refine W_region ?_
    iterate 4 (first | (refine VO ?_) | (refine VX (ex_min (by simp only [go_sem, ↓reduceIte, Nat.reduceEqDiff]; rfl) (by simp only [go_sem, ↓reduceIte, Nat.reduceEqDiff]; rfl)) ?_))
    refine WO_nil ?_; (repeat refine W_seq ?_)
    refine W_region ?_
    iterate 4 (first | (refine VO ?_) | (refine VX (ex_max (by simp only [go_sem, ↓reduceIte, Nat.reduceEqDiff]; rfl) (by simp only [go_sem, ↓reduceIte, Nat.reduceEqDiff]; rfl)) ?_))
    refine WO_nil (W_ret ⟨.inr rfl, _, by (simp only [resultB, resB, parts, V.part, Sl.get_set', ↓reduceIte, Nat.reduceEqDiff] <;> rfl), ?_, rfl⟩)
    unfold clampI; rw [if_neg hg, Int.max_comm]
  · have hg : hi = -1 := by simpa using hg
    repeat refine W_seq ?_
    refine W_region ?_
    iterate 4 (first | (refine VO ?_) | (refine VX (ex_max (by simp only [go_sem, ↓reduceIte, Nat.reduceEqDiff]; rfl) (by simp only [go_sem, ↓reduceIte, Nat.reduceEqDiff]; rfl)) ?_))
    refine WO_nil (W_ret ⟨.inr rfl, _, by (simp only [resultB, resB, parts, V.part, Sl.get_set', ↓reduceIte, Nat.reduceEqDiff] <;> rfl), ?_, rfl⟩)
    unfold clampI; rw [if_pos hg, Int.max_comm]
set_option maxHeartbeats 0 in
theorem refplain_fn {spec : CallF} (hs : SpecEq spec) {h : H} {x : Itm} (ok : Ok h) :
    WF Try.prog spec 31 [.agg x.cells] h fun v h1 => v = .one (.i .i64 x.plain) ∧ Up (· < h.next) h h1 ∧ h1.next = h.next + 1 ∧ Ok h1 := by
  refine WF_of Try.func31 rfl (hs.s31 _ _) (by rw [Try.ntmps31]; simp) (by rw [Try.ntmps31]; decide) ?_
  rw [Try.ntmps31, Try.results31]
  simp only [Sl.setMany_cons, Sl.setMany_nil, Nat.zero_add, Nat.reduceAdd]
  (repeat refine W_seq ?_); refine W_region ?_
  refine WO_boxA (ee) ok (by decide) fun h1 n1 => ?_
  have c1 := n1.cells
  unfold Itm.cells at c1
  (refine VO ?_)
  refine WO_nil ?_; (repeat refine W_seq ?_)
  refine W_region ?_
  iterate 6 (first | (refine VO ?_) | (refine VX (by simp (disch := first | omega | simp) only [go_sem, ↓reduceIte, Nat.reduceEqDiff, Nat.reduceAdd, c1.row]; rfl) ?_))
  refine WO_fn (ee) (by simp) (by decide) ((clamp_fn hs).mono ?_)
  rintro v h2 ⟨rfl, rfl⟩
  (refine VO ?_)
  exact WO_nil (W_ret ⟨.inr rfl, _, by (simp only [resultB, resB, parts, V.part, Sl.get_set', ↓reduceIte, Nat.reduceEqDiff] <;> rfl), rfl, n1.up, n1.next, n1.ok⟩)
set_option maxHeartbeats 0 in
theorem refplains_fn {spec : CallF} (hs : SpecEq spec) {h : H} {v : S} {L : List Itm} (ok : Ok h) (hi : ItemsAt h v L) (hn : L.length ≤ 1000) :
    WF Try.prog spec 27 [.one v] h fun r h1 => ∃ x, r = .one x ∧ Grown h1 x h.next 3 1 (nums (plains L)) ∧ Up (· < h.next) h h1 ∧ Ok h1 := by
  refine WF_of Try.func27 rfl (hs.s27 _ _) (by rw [Try.ntmps27]; simp) (by rw [Try.ntmps27]; decide) ?_
  rw [Try.ntmps27, Try.results27]
  simp only [Sl.setMany_cons, Sl.setMany_nil, Nat.zero_add, Nat.reduceAdd]
  (repeat refine W_seq ?_); refine W_region ?_
  (refine VO ?_)
  refine WO_nil ?_; (repeat refine W_seq ?_)
  refine W_region ?_
  (refine VO ?_)
  refine WO_nil ?_; (repeat refine W_seq ?_)
  refine W_region ?_
  (refine VO ?_)
  refine WO_nil ?_; (repeat refine W_seq ?_)
  refine W_block (W_rounds (fun j T h1 => ∃ k x, j = L.length - k ∧ k ≤ L.length ∧ T.get 3 = some (.one x) ∧ T.get 0 = some (.one v) ∧ T.get 4 = some (.one (.i .i64 (k : Int))) ∧ Grown h1 x h.next 3 1 (nums (plains (L.take k))) ∧ Up (· < h.next) h h1 ∧ Ok h1) ?_ L.length _ _ ⟨0, .sl0, rfl, Nat.zero_le _, gs, gs, gs, .nil, .refl _ _, ok⟩)
  rintro j T h1 ⟨k, x, rfl, hk, t3, t0, t4, gx, u1, o1⟩
  (repeat refine W_seq ?_); refine W_region ?_
  iterate 2 (refine VX (by simp only [go_sem, ↓reduceIte, Nat.reduceEqDiff, Nat.reduceAdd, t0, t4]; rfl) ?_)
  refine WO_val (hi.len (ee)) (by decide) ?_
  (refine VX (ex_bin (by simp only [go_sem, ↓reduceIte, Nat.reduceEqDiff, t0, t4]; rfl) (by simp only [go_sem, ↓reduceIte, Nat.reduceEqDiff, t0, t4]; rfl) in_lss) ?_)
  refine WO_nil ?_; (repeat refine W_seq ?_)
  refine W_cond (ee) (fun hlt => W_skip ?_) (fun hge => W_exit ?_)
  · have hlt : (k : Int) < (L.length : Int) := by simpa using hlt
    have hlt : k < L.length := by omega
    obtain ⟨b, o, c, ex, rfl, hbn, hrows⟩ : ∃ b o c ex, v = .sl b o L.length c 5 ex ∧ b < h.next ∧ ∀ k x, L[k]? = some x → h.row b (o + k * 5) 5 = some x.cells := by
      rcases hi with ⟨rfl, _⟩ | q
      · simp at hlt
      · exact q
    obtain ⟨y, hy⟩ : ∃ y, L[k]? = some y := ⟨_, List.getElem?_eq_getElem hlt⟩
    have r1 : h1.row b (o + k * 5) 5 = some y.cells := by rw [u1.row hbn]; exact hrows k y hy
    have hn1 := u1.next
    repeat refine W_seq ?_
    refine W_block ?_
    (repeat refine W_seq ?_); refine W_region ?_
    iterate 3 (refine VX (by simp only [go_sem, ↓reduceIte, Nat.reduceEqDiff, Nat.reduceAdd, t3, t0, t4]; rfl) ?_)
    (refine VX (by simp (disch := first | omega | simp) only [go_sem, ↓reduceIte, Nat.reduceEqDiff, Nat.reduceAdd, t3, t0, t4]; rfl) ?_)
    (refine VX (by simp (disch := first | omega | simp) only [go_sem, ↓reduceIte, Nat.reduceEqDiff, Nat.reduceAdd, r1, t3, t0, t4]; rfl) ?_)
    refine WO_fn (ee) (by simp) (by decide) ((refplain_fn hs o1).mono ?_)
    rintro w4 h4 ⟨rfl, u4, e4, o4⟩
    refine WO_bs1 el23 ⟨_, ze23⟩ (ee) o4 (by decide) fun h5 n5 => ?_
    have u5 : Up (· < h1.next) h1 h5 := u4.trans (n5.up.mono fun b hb => by omega)
    have g5 := gx.up u5 fun q hq => (gx.lt hq).2
    have e5 := n5.next
    refine WO_app (n0 := h.next) ap23_23 (by (simp only [go_sem, ↓reduceIte, Nat.reduceEqDiff, t3] <;> rfl)) (ee) n5.cells rfl g5 n5.ok (by omega) (m := (L.take k).length) (by simp [nums, plains]) (by simp; omega) (by simp; omega) (by decide) fun x6 h6 g6 => ?_
    (refine VO ?_)
    refine WO_nil ?_; (repeat refine W_seq ?_)
    refine W_region ?_
    iterate 3 (first | (refine VX (by simp only [go_sem, ↓reduceIte, Nat.reduceEqDiff, Nat.reduceAdd, t4]; rfl) ?_) | (refine VX (ex_bin (by simp only [go_sem, ↓reduceIte, Nat.reduceEqDiff, t4]; rfl) (by simp only [go_sem, ↓reduceIte, Nat.reduceEqDiff, t4]; rfl) in_add) ?_; (try rw [wrap_id (by omega) (by omega)])))
    refine WO_nil ?_
    have e := plains_take hy
    exact ⟨L.length - (k + 1), by omega, k + 1, x6, rfl, hlt, gs, gt t0, gs, g6.grown.same (by rw [e, nums_append]; rfl), (u1.trans (u5.mono fun b hb => by omega)).trans (g6.below g5 (by omega)), g6.ok⟩
  · have hge : ¬ (k : Int) < (L.length : Int) := by simpa using hge
    have hk : k = L.length := by omega
    subst hk
    refine ⟨fun _ => ?_, fun hne => absurd rfl hne⟩
    (repeat refine W_seq ?_); refine W_region ?_
    iterate 2 (refine VX (by simp only [go_sem, ↓reduceIte, Nat.reduceEqDiff, Nat.reduceAdd, t3]; rfl) ?_)
    exact WO_nil (W_ret ⟨.inr rfl, _, by (simp only [resultB, resB, parts, V.part, Sl.get_set', ↓reduceIte, Nat.reduceEqDiff] <;> rfl), x, rfl, gx.same (by rw [List.take_length]), u1, o1⟩)
set_option maxHeartbeats 0 in
theorem eq_fn {spec : CallF} (hs : SpecEq spec) {h : H} {v w : S} {a b : List Int} (ok : Ok h) (ha : IntsAt h v a) (hb : IntsAt h w b) (hn : a.length ≤ 1000000) :
    WF Try.prog spec 17 [.one v, .one w] h fun r h1 => r = .one (.b (decide (a = b))) ∧ h1 = h := by
  refine WF_of Try.func17 rfl (hs.s17 _ _) (by rw [Try.ntmps17]; simp) (by rw [Try.ntmps17]; decide) ?_
  rw [Try.ntmps17, Try.results17]
  simp only [Sl.setMany_cons, Sl.setMany_nil, Nat.zero_add, Nat.reduceAdd]
  (repeat refine W_seq ?_); refine W_region ?_
  (refine VO ?_)
  refine WO_nil ?_; (repeat refine W_seq ?_)
  refine W_region ?_
  (refine VO ?_)
  refine WO_val (ha.len (ee)) (by decide) ?_
  (refine VO ?_)
  refine WO_val (hb.len (ee)) (by decide) ?_
  (refine VX (ex_bin ee ee in_neq) ?_)
  refine WO_nil ?_; (repeat refine W_seq ?_)
  refine W_cond (ee) (fun hne => ?_) (fun he => W_skip ?_)
  · have hne : a ≠ b := by
      intro e
      subst e
      simp at hne
    (repeat refine W_seq ?_); refine W_region ?_
    (refine VO ?_)
    exact WO_nil (W_ret ⟨.inr rfl, _, by (simp only [resultB, resB, parts, V.part, Sl.get_set', ↓reduceIte, Nat.reduceEqDiff] <;> rfl), by rw [decide_eq_false hne], rfl⟩)
  have he : (a.length : Int) = (b.length : Int) := by simpa using he
  have he : a.length = b.length := by omega
  (repeat refine W_seq ?_); refine W_region ?_
  (refine VO ?_)
  refine WO_nil ?_; (repeat refine W_seq ?_)
  refine W_block (W_rounds (fun j T h1 => h1 = h ∧ ∃ k, j = a.length - k ∧ k ≤ a.length ∧ T.get 0 = some (.one v) ∧ T.get 1 = some (.one w) ∧ T.get 5 = some (.one (.i .i64 (k : Int))) ∧ a.take k = b.take k) ?_ a.length _ _ ⟨rfl, 0, rfl, Nat.zero_le _, gs, gs, gs, rfl⟩)
  rintro j T h1 ⟨rfl, k, rfl, hk, t0, t1, t5, htk⟩
  (repeat refine W_seq ?_); refine W_region ?_
  iterate 2 (refine VX (by simp only [go_sem, ↓reduceIte, Nat.reduceEqDiff, Nat.reduceAdd, t0, t5]; rfl) ?_)
  refine WO_val (ha.len (ee)) (by decide) ?_
  (refine VX (ex_bin (by simp only [go_sem, ↓reduceIte, Nat.reduceEqDiff, t0, t5]; rfl) (by simp only [go_sem, ↓reduceIte, Nat.reduceEqDiff, t0, t5]; rfl) in_lss) ?_)
  refine WO_nil ?_; (repeat refine W_seq ?_)
  refine W_cond (ee) (fun hlt => W_skip ?_) (fun hge => W_exit ?_)
  · have hlt : (k : Int) < (a.length : Int) := by simpa using hlt
    have hlt : k < a.length := by omega
    have hta := take_eq he hlt htk
    obtain ⟨b1, c1, ex1, rfl, hbn1, hrow1⟩ : ∃ b c ex, v = .sl b 0 a.length c 1 ex ∧ b < h1.next ∧ ∀ k x, a[k]? = some x → h1.row b k 1 = some [.i .i64 x] := by
      rcases ha with ⟨rfl, _⟩ | q
      · simp at hlt
      · exact q
    obtain ⟨b2, c2, ex2, rfl, hbn2, hrow2⟩ : ∃ b' c ex, w = .sl b' 0 b.length c 1 ex ∧ b' < h1.next ∧ ∀ k x, b[k]? = some x → h1.row b' k 1 = some [.i .i64 x] := by
      rcases hb with ⟨rfl, _⟩ | q
      · simp at he; subst he; simp at hlt
      · exact q
    have r1 : h1.row b1 k 1 = some [.i .i64 (rd a k)] := hrow1 k _ (by have := rd_at (l := a) (i := k) (by omega) (by omega); simpa using this)
    have r2 : h1.row b2 k 1 = some [.i .i64 (rd b k)] := hrow2 k _ (by have := rd_at (l := b) (i := k) (by omega) (by omega); simpa using this)
    repeat refine W_seq ?_
    refine W_block ?_
    repeat refine W_seq ?_
    refine W_drawn dr17_6 (by kernel_rfl) ok.floor ?_
    unfold dr17_6
    iterate 9 (first | (refine IX rfl (by simp only [go_sem, ↓reduceIte, Nat.reduceEqDiff, Nat.reduceAdd, t0, t1, t5]; rfl) ?_) | (refine IX rfl (by simp (disch := first | omega | simp) only [go_sem, ↓reduceIte, Nat.reduceEqDiff, Nat.reduceAdd, t0, t1, t5]; rfl) ?_) | (refine IL rfl wantB_none (by simp only [go_sem, ↓reduceIte, Nat.reduceEqDiff, t0, t1, t5]; rfl) (by simp (disch := first | omega | simp) only [go_sem, ↓reduceIte, Nat.reduceEqDiff, Nat.reduceAdd, r1, r2]; rfl) ?_) | (refine IX rfl (ex_bin (by simp only [go_sem, ↓reduceIte, Nat.reduceEqDiff, t0, t1, t5]; rfl) (by simp only [go_sem, ↓reduceIte, Nat.reduceEqDiff, t0, t1, t5]; rfl) in_neq) ?_))
    refine WI_nil ?_; (repeat refine W_seq ?_)
    refine W_cond (ee) (fun hne => ?_) (fun hq => W_skip ?_)
    · have hne : ¬ rd a k = rd b k := by simpa using hne
      (repeat refine W_seq ?_); refine W_region ?_
      (refine VO ?_)
      refine WO_nil (W_ret ⟨.inr rfl, _, by (simp only [resultB, resB, parts, V.part, Sl.get_set', ↓reduceIte, Nat.reduceEqDiff] <;> rfl), ?_, rfl⟩)
      rw [decide_eq_false]
      rintro rfl
      exact hne rfl
    · have hq : rd a k = rd b k := by simpa using hq
      (repeat refine W_seq ?_); refine W_region ?_
      iterate 3 (first | (refine VX (by simp only [go_sem, ↓reduceIte, Nat.reduceEqDiff, Nat.reduceAdd, t5]; rfl) ?_) | (refine VX (ex_bin (by simp only [go_sem, ↓reduceIte, Nat.reduceEqDiff, t5]; rfl) (by simp only [go_sem, ↓reduceIte, Nat.reduceEqDiff, t5]; rfl) in_add) ?_; (try rw [wrap_id (by omega) (by omega)])))
      exact WO_nil ⟨_, by omega, rfl, k + 1, rfl, hlt, gt t0, gt t1, gs, hta.2 hq⟩
  · have hge : ¬ (k : Int) < (a.length : Int) := by simpa using hge
    have hk : k = a.length := by omega
    subst hk
    rw [List.take_length, he, List.take_length] at htk
    refine ⟨fun _ => ?_, fun hne => absurd rfl hne⟩
    (repeat refine W_seq ?_); refine W_region ?_
    (refine VO ?_)
    exact WO_nil (W_ret ⟨.inr rfl, _, by (simp only [resultB, resB, parts, V.part, Sl.get_set', ↓reduceIte, Nat.reduceEqDiff] <;> rfl), by rw [decide_eq_true htk], rfl⟩)
end Go.Ai
