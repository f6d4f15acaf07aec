/-
line: sizes together: what the machine comes to.
-/
import Derived.Test.YtjjlmmebkemlgaaFxSizes
set_option linter.unusedVariables false
set_option linter.unusedSimpArgs false
namespace Go.Ai
open Go.Proofs

/-- Numbers that lie in a slice, or none. -/
def IntsAt (h : H) (v : S) (l : List Int) : Prop := (l = [] ∧ v = .sl0) ∨ ∃ b c ex, v = .sl b 0 l.length c 1 ex ∧ b < h.next ∧ ∀ k x, l[k]? = some x → h.row b k 1 = some [.i .i64 x]
theorem IntsAt.up {h h1 : H} {v : S} {l : List Int} (k : IntsAt h v l) {p : Nat → Prop} (u : Up p h h1) (hp : ∀ b, S.blk v = some b → p b) : IntsAt h1 v l := by
  rcases k with k | ⟨b, c, ex, rfl, h1, h2⟩
  · exact .inl k
  · exact .inr ⟨b, c, ex, rfl, Nat.lt_of_lt_of_le h1 u.next, fun i x hx => by rw [u.row (hp b rfl)]; exact h2 i x hx⟩
theorem IntsAt.upLt {h h1 : H} {v : S} {l : List Int} (k : IntsAt h v l) (u : Up (· < h.next) h h1) : IntsAt h1 v l := by
  refine k.up u fun b hb => ?_
  rcases k with ⟨_, rfl⟩ | ⟨b', c, ex, rfl, h1, h2⟩
  · cases hb
  · cases hb; exact h1
theorem nums_get {l : List Int} {k : Nat} {x : Int} (hx : l[k]? = some x) : (nums l)[k]? = some (.i .i64 x) := by simp [nums, hx]
theorem Grown.ints {h : H} {v : S} {n0 e : Nat} {l : List Int} (k : Grown h v n0 e 1 (nums l)) : IntsAt h v l := by
  rcases k with ⟨h1, h2⟩ | ⟨q, n, rfl, h1, h2, h3, h4, h5, h6⟩
  · exact .inl ⟨by simpa [nums] using h1, h2⟩
  · have : n = l.length := by rw [nums_length] at h2; omega
    subst this
    exact .inr ⟨q, l.length, false, rfl, h6, fun i x hx => h3.at1 (nums_get hx)⟩
theorem Cells.ints {h : H} {b e c : Nat} {ex : Bool} {l : List Int} (k : Cells h b e (nums l)) (hb : b < h.next) : IntsAt h (.sl b 0 l.length c 1 ex) l := .inr ⟨b, c, ex, rfl, hb, fun i x hx => k.at1 (nums_get hx)⟩
def lineF (gap : Int) (p : Bool × Int) (x : Int) : Bool × Int := (true, satI ((if p.1 then satI (p.2 + gap) else p.2) + x))
def sumI (l : List Int) (gap : Int) : Int := (l.foldl (lineF gap) (false, 0)).2
theorem lineF_take {gap : Int} {l : List Int} {k : Nat} {x : Int} (hx : l[k]? = some x) : (l.take (k + 1)).foldl (lineF gap) (false, 0) = lineF gap ((l.take k).foldl (lineF gap) (false, 0)) x := by
  obtain ⟨hk, rfl⟩ := List.getElem?_eq_some_iff.1 hx
  rw [List.take_succ_eq_append_getElem hk, List.foldl_append]; rfl
theorem lineF_fst (gap : Int) : ∀ (l : List Int) (p : Bool × Int), l ≠ [] → (l.foldl (lineF gap) p).1 = true
  | [x], p, _ => rfl
  | x :: y :: l, p, _ => lineF_fst gap (y :: l) _ (by simp)
theorem lineF_in {gap : Int} {l : List Int} {p : Bool × Int} (hp : -1099511627776 ≤ p.2 ∧ p.2 ≤ 1099511627776) : -1099511627776 ≤ (l.foldl (lineF gap) p).2 ∧ (l.foldl (lineF gap) p).2 ≤ 1099511627776 := by
  induction l generalizing p with
  | nil => exact hp
  | cons x l ih => exact ih (satI_in _)
set_option maxHeartbeats 0 in
theorem sum_fn {spec : CallF} (hs : ∀ args h, spec 59 args h = none) (hs1 : ∀ args h, spec 65 args h = none) (hs2 : ∀ args h, spec 68 args h = none) {h : H} {v : S} {l : List Int} {gap : Int} (ok : Ok h) (hi : IntsAt h v l) (hn : l.length ≤ 1000) (hl : ∀ x ∈ l, -1099511627776 ≤ x ∧ x ≤ 1099511627776) (hgap : -1099511627776 ≤ gap ∧ gap ≤ 1099511627776) :
    WF Try.prog spec 59 [.one v, .one (.i .i64 gap)] h fun r h1 => r = .one (.i .i64 (sumI l gap)) ∧ Up (· < h.next) h h1 ∧ Ok h1 := by
  refine WF_of Try.func59 rfl (hs _ _) (by rw [Try.ntmps59]; simp) (by rw [Try.ntmps59]; decide) ?_
  rw [Try.ntmps59, Try.results59]
  simp only [Sl.setMany_cons, Sl.setMany_nil, Nat.zero_add, Nat.reduceAdd]
  (repeat refine W_seq ?_); refine W_region ?_
  repeat (first
      | (refine WO_val (by simp (disch := first | omega | simp) only [go_sem, ↓reduceIte, Nat.reduceEqDiff, Nat.reduceAdd]; rfl) (by decide) ?_)
      | (refine WO_val (ex_bin (by simp only [go_sem, ↓reduceIte, Nat.reduceEqDiff]; rfl) (by simp only [go_sem, ↓reduceIte, Nat.reduceEqDiff]; rfl) (by first | exact in_add | exact in_lss | exact in_gtr)) (by decide) ?_; (try rw [wrap_id (by omega) (by omega)]))
      | (refine WO_val (ex_len el23 (by simp only [go_sem, ↓reduceIte, Nat.reduceEqDiff]; rfl)) (by decide) ?_))
  refine WO_nil ?_; (repeat refine W_seq ?_)
  refine W_scoped ?_
  repeat refine W_seq ?_
  (repeat refine W_seq ?_); refine W_region ?_
  repeat (first
      | (refine WO_val (by simp (disch := first | omega | simp) only [go_sem, ↓reduceIte, Nat.reduceEqDiff, Nat.reduceAdd]; rfl) (by decide) ?_)
      | (refine WO_val (ex_bin (by simp only [go_sem, ↓reduceIte, Nat.reduceEqDiff]; rfl) (by simp only [go_sem, ↓reduceIte, Nat.reduceEqDiff]; rfl) (by first | exact in_add | exact in_lss | exact in_gtr)) (by decide) ?_; (try rw [wrap_id (by omega) (by omega)]))
      | (refine WO_val (ex_len el23 (by simp only [go_sem, ↓reduceIte, Nat.reduceEqDiff]; rfl)) (by decide) ?_))
  refine WO_nil ?_; (repeat refine W_seq ?_)
  refine W_label ?_
  refine W_here (fun j T h1 => ∃ k, j = l.length - k ∧ k ≤ l.length ∧ T.get 0 = some (.one v) ∧ T.get 1 = some (.one (.i .i64 gap)) ∧ T.get 5 = some (.one (.i .i64 ((l.take k).foldl (lineF gap) (false, 0)).2)) ∧ T.get 6 = some (.one (.i .i64 (k : Int))) ∧ Up (· < h.next) h h1 ∧ Ok h1) ?_ l.length _ _ ⟨0, rfl, Nat.zero_le _, gs, gs, by (simp only [go_sem, ↓reduceIte, Nat.reduceEqDiff, List.take_zero, List.foldl_nil] <;> first | rfl | simp), gs, .refl _ _, ok⟩
  rintro j T h1 ih ⟨k, rfl, hk, t0, t1, t5, t6, u1, o1⟩
  have hlen : ∀ T : Sl, ∀ x : Operand, ev T x = some (.one v) → ∀ {d ty ps af g}, execO Try.prog T h1 ⟨d, .call ⟨.builtin .len, #[x], #[23]⟩, ty, ps, af, g⟩ = some (.val (.one (.i .i64 (l.length : Int))) h1) := by
    intro T x hx d ty ps af g
    rcases hi with ⟨rfl, rfl⟩ | ⟨b, c, ex, rfl, _⟩
    · exact ex_len0 el23 hx
    · exact ex_len el23 hx
  have hp := lineF_in (gap := gap) (l := l.take k) (p := (false, 0)) (by simp)
  have hn1 := u1.next
  (repeat refine W_seq ?_); refine W_region ?_
  repeat (first
      | (refine WO_val (by simp (disch := first | omega | simp) only [go_sem, ↓reduceIte, Nat.reduceEqDiff, Nat.reduceAdd, t0, t1, t5, t6]; rfl) (by decide) ?_)
      | (refine WO_val (ex_bin (by simp only [go_sem, ↓reduceIte, Nat.reduceEqDiff, t0, t1, t5, t6]; rfl) (by simp only [go_sem, ↓reduceIte, Nat.reduceEqDiff, t0, t1, t5, t6]; rfl) (by first | exact in_add | exact in_lss | exact in_gtr)) (by decide) ?_; (try rw [wrap_id (by omega) (by omega)]))
      | (refine WO_val (ex_len el23 (by simp only [go_sem, ↓reduceIte, Nat.reduceEqDiff, t0, t1, t5, t6]; rfl)) (by decide) ?_))
  refine WO_val (hlen _ _ (ee)) (by decide) ?_
  repeat (first
      | (refine WO_val (by simp (disch := first | omega | simp) only [go_sem, ↓reduceIte, Nat.reduceEqDiff, Nat.reduceAdd, t0, t1, t5, t6]; rfl) (by decide) ?_)
      | (refine WO_val (ex_bin (by simp only [go_sem, ↓reduceIte, Nat.reduceEqDiff, t0, t1, t5, t6]; rfl) (by simp only [go_sem, ↓reduceIte, Nat.reduceEqDiff, t0, t1, t5, t6]; rfl) (by first | exact in_add | exact in_lss | exact in_gtr)) (by decide) ?_; (try rw [wrap_id (by omega) (by omega)]))
      | (refine WO_val (ex_len el23 (by simp only [go_sem, ↓reduceIte, Nat.reduceEqDiff, t0, t1, t5, t6]; rfl)) (by decide) ?_))
  refine WO_nil ?_; (repeat refine W_seq ?_)
  refine W_cond (ee) (fun hlt => ?_) (fun hge => ?_)
  · have hlt : (k : Int) < (l.length : Int) := by simpa using hlt
    have hlt : k < l.length := by omega
    obtain ⟨b, c, ex, rfl, hbn, hrows⟩ : ∃ b c ex, v = .sl b 0 l.length c 1 ex ∧ b < h.next ∧ ∀ k x, l[k]? = some x → h.row b k 1 = some [.i .i64 x] := by
      rcases hi with ⟨rfl, _⟩ | q
      · simp at hlt
      · exact q
    obtain ⟨x, hx⟩ : ∃ x, l[k]? = some x := ⟨_, List.getElem?_eq_getElem hlt⟩
    have hxb := hl x (List.mem_of_getElem? hx)
    have hstep := lineF_take (gap := gap) hx
    refine W_join (fun T2 h2 => T2.get 0 = some (.one (.sl b 0 l.length c 1 ex)) ∧ T2.get 1 = some (.one (.i .i64 gap)) ∧ T2.get 6 = some (.one (.i .i64 (k : Int))) ∧ T2.get 5 = some (.one (.i .i64 (if 0 < k then satI (((l.take k).foldl (lineF gap) (false, 0)).2 + gap) else ((l.take k).foldl (lineF gap) (false, 0)).2))) ∧ Up (· < h.next) h h2 ∧ Ok h2) ?_ ?_
    · (repeat refine W_seq ?_); refine W_region ?_
      repeat (first
      | (refine WO_val (by simp (disch := first | omega | simp) only [go_sem, ↓reduceIte, Nat.reduceEqDiff, Nat.reduceAdd, t6]; rfl) (by decide) ?_)
      | (refine WO_val (ex_bin (by simp only [go_sem, ↓reduceIte, Nat.reduceEqDiff, t6]; rfl) (by simp only [go_sem, ↓reduceIte, Nat.reduceEqDiff, t6]; rfl) (by first | exact in_add | exact in_lss | exact in_gtr)) (by decide) ?_; (try rw [wrap_id (by omega) (by omega)]))
      | (refine WO_val (ex_len el23 (by simp only [go_sem, ↓reduceIte, Nat.reduceEqDiff, t6]; rfl)) (by decide) ?_))
      refine WO_nil ?_; (repeat refine W_seq ?_)
      refine W_cond (ee) (fun hg => ?_) (fun hg => ?_)
      · have hg : 0 < k := by have : (0 : Int) < (k : Int) := by simpa using hg
                              omega
        refine W_region ?_
        repeat (first
      | (refine WO_val (by simp (disch := first | omega | simp) only [go_sem, ↓reduceIte, Nat.reduceEqDiff, Nat.reduceAdd, t1, t5]; rfl) (by decide) ?_)
      | (refine WO_val (ex_bin (by simp only [go_sem, ↓reduceIte, Nat.reduceEqDiff, t1, t5]; rfl) (by simp only [go_sem, ↓reduceIte, Nat.reduceEqDiff, t1, t5]; rfl) (by first | exact in_add | exact in_lss | exact in_gtr)) (by decide) ?_; (try rw [wrap_id (by omega) (by omega)]))
      | (refine WO_val (ex_len el23 (by simp only [go_sem, ↓reduceIte, Nat.reduceEqDiff, t1, t5]; rfl)) (by decide) ?_))
        refine WO_bs1 el23 ⟨_, ze23⟩ (ee) o1 (by decide) fun h2 n2 => ?_
        have e2 := n2.next
        refine WO_fn (ee) (by simp) (by decide) ((plus_fn hs1 hs2 (l := [gap]) hp (by simpa using hgap) (by simp) (fun i y hy => ?_)).mono ?_)
        · match i, hy with
          | 0, hy => simp at hy; subst hy; rw [n2.cells.row (by simp)]; rfl
        rintro w3 h3 ⟨rfl, rfl⟩
        repeat (first
      | (refine WO_val (by simp (disch := first | omega | simp) only [go_sem, ↓reduceIte, Nat.reduceEqDiff, Nat.reduceAdd]; rfl) (by decide) ?_)
      | (refine WO_val (ex_bin (by simp only [go_sem, ↓reduceIte, Nat.reduceEqDiff]; rfl) (by simp only [go_sem, ↓reduceIte, Nat.reduceEqDiff]; rfl) (by first | exact in_add | exact in_lss | exact in_gtr)) (by decide) ?_; (try rw [wrap_id (by omega) (by omega)]))
      | (refine WO_val (ex_len el23 (by simp only [go_sem, ↓reduceIte, Nat.reduceEqDiff]; rfl)) (by decide) ?_))
        refine WO_nil ⟨rfl, gt t0, gt t1, gt t6, ?_, u1.trans (n2.up.mono fun b hb => by omega), n2.ok⟩
        simp only [go_sem, ↓reduceIte, Nat.reduceEqDiff, if_pos hg, plusI]
      · have hg : ¬ 0 < k := by have : ¬ (0 : Int) < (k : Int) := by simpa using hg
                                omega
        refine W_skip ?_
        refine ⟨rfl, gt t0, gt t1, gt t6, ?_, u1, o1⟩
        simp only [go_sem, ↓reduceIte, Nat.reduceEqDiff, if_neg hg, t5]
    rintro T2 h2 ⟨s0, s1, s6, s5, u2, o2⟩
    have r1 : h2.row b k 1 = some [.i .i64 x] := by rw [u2.row hbn]; exact hrows k x hx
    have hn2 := u2.next
    have hq : -1099511627776 ≤ (if 0 < k then satI (((l.take k).foldl (lineF gap) (false, 0)).2 + gap) else ((l.take k).foldl (lineF gap) (false, 0)).2) ∧ (if 0 < k then satI (((l.take k).foldl (lineF gap) (false, 0)).2 + gap) else ((l.take k).foldl (lineF gap) (false, 0)).2) ≤ 1099511627776 := by
      split
      · exact satI_in _
      · exact hp
    have hbk : ((l.take k).foldl (lineF gap) (false, 0)).1 = decide (0 < k) := by
      rcases Nat.eq_zero_or_pos k with rfl | q
      · simp
      · rw [lineF_fst]
        · simp [q]
        · intro e; have := congrArg List.length e; rw [List.length_take, Nat.min_eq_left hk] at this; simp only [List.length_nil] at this; omega
    (repeat refine W_seq ?_); refine W_region ?_
    repeat (first
      | (refine WO_val (by simp (disch := first | omega | simp) only [go_sem, ↓reduceIte, Nat.reduceEqDiff, Nat.reduceAdd, r1, s0, s5, s6]; rfl) (by decide) ?_)
      | (refine WO_val (ex_bin (by simp only [go_sem, ↓reduceIte, Nat.reduceEqDiff, s0, s5, s6]; rfl) (by simp only [go_sem, ↓reduceIte, Nat.reduceEqDiff, s0, s5, s6]; rfl) (by first | exact in_add | exact in_lss | exact in_gtr)) (by decide) ?_; (try rw [wrap_id (by omega) (by omega)]))
      | (refine WO_val (ex_len el23 (by simp only [go_sem, ↓reduceIte, Nat.reduceEqDiff, s0, s5, s6]; rfl)) (by decide) ?_))
    refine WO_bs1 el23 ⟨_, ze23⟩ (ee) o2 (by decide) fun h3 n3 => ?_
    have e3 := n3.next
    refine WO_fn (ee) (by simp) (by decide) ((plus_fn hs1 hs2 (l := [x]) hq (by simpa using hxb) (by simp) (fun i y hy => ?_)).mono ?_)
    · match i, hy with
      | 0, hy => simp at hy; subst hy; rw [n3.cells.row (by simp)]; rfl
    rintro w4 h4 ⟨rfl, rfl⟩
    repeat (first
      | (refine WO_val (by simp (disch := first | omega | simp) only [go_sem, ↓reduceIte, Nat.reduceEqDiff, Nat.reduceAdd]; rfl) (by decide) ?_)
      | (refine WO_val (ex_bin (by simp only [go_sem, ↓reduceIte, Nat.reduceEqDiff]; rfl) (by simp only [go_sem, ↓reduceIte, Nat.reduceEqDiff]; rfl) (by first | exact in_add | exact in_lss | exact in_gtr)) (by decide) ?_; (try rw [wrap_id (by omega) (by omega)]))
      | (refine WO_val (ex_len el23 (by simp only [go_sem, ↓reduceIte, Nat.reduceEqDiff]; rfl)) (by decide) ?_))
    refine WO_nil ?_; (repeat refine W_seq ?_)
    refine W_region ?_
    repeat (first
      | (refine WO_val (by simp (disch := first | omega | simp) only [go_sem, ↓reduceIte, Nat.reduceEqDiff, Nat.reduceAdd, s6]; rfl) (by decide) ?_)
      | (refine WO_val (ex_bin (by simp only [go_sem, ↓reduceIte, Nat.reduceEqDiff, s6]; rfl) (by simp only [go_sem, ↓reduceIte, Nat.reduceEqDiff, s6]; rfl) (by first | exact in_add | exact in_lss | exact in_gtr)) (by decide) ?_; (try rw [wrap_id (by omega) (by omega)]))
      | (refine WO_val (ex_len el23 (by simp only [go_sem, ↓reduceIte, Nat.reduceEqDiff, s6]; rfl)) (by decide) ?_))
    refine WO_nil ?_; (repeat refine W_seq ?_)
    refine W_goto ?_; (repeat first | refine thenQ_goto ?_ | refine blockQ_goto ?_); refine scope_jump (by rfl) ?_; (repeat refine W_seq ?_)
    refine W_skip ?_
    refine ih (l.length - (k + 1)) (by omega) _ _ ⟨k + 1, rfl, hlt, by (simp only [go_sem, ↓reduceIte, Nat.reduceEqDiff, s0] <;> first | rfl | simp), by (simp only [go_sem, ↓reduceIte, Nat.reduceEqDiff, s1] <;> first | rfl | simp), ?_, gs, u2.trans (n3.up.mono fun b hb => by omega), n3.ok⟩
    simp only [go_sem, ↓reduceIte, Nat.reduceEqDiff, hstep, lineF, hbk, plusI, decide_eq_true_eq]
  · have hge : ¬ (k : Int) < (l.length : Int) := by simpa using hge
    have hk : k = l.length := by omega
    subst hk
    rw [List.take_length] at t5
    refine W_skip ?_
    repeat refine W_seq ?_
    refine W_region ?_
    repeat (first
      | (refine WO_val (by simp (disch := first | omega | simp) only [go_sem, ↓reduceIte, Nat.reduceEqDiff, Nat.reduceAdd, t5]; rfl) (by decide) ?_)
      | (refine WO_val (ex_bin (by simp only [go_sem, ↓reduceIte, Nat.reduceEqDiff, t5]; rfl) (by simp only [go_sem, ↓reduceIte, Nat.reduceEqDiff, t5]; rfl) (by first | exact in_add | exact in_lss | exact in_gtr)) (by decide) ?_; (try rw [wrap_id (by omega) (by omega)]))
      | (refine WO_val (ex_len el23 (by simp only [go_sem, ↓reduceIte, Nat.reduceEqDiff, t5]; rfl)) (by decide) ?_))
    exact WO_nil (W_ret ⟨.inr rfl, _, by (simp only [resultB, resB, parts, V.part, Sl.get_set', ↓reduceIte, Nat.reduceEqDiff] <;> rfl), rfl, u1, o1⟩)
end Go.Ai
