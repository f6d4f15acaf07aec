/-
fixed, line: within bounds, sums; plain sizes: what the machine comes to.
-/
import Derived.Test.YtjjlmmebkemlgaaFxFree
set_option linter.unusedVariables false
set_option linter.unusedSimpArgs false
namespace Go.Ai
open Go.Proofs

def clampI (x lo hi : Int) : Int := max lo (if hi = -1 then x else min x hi)
def satI (n : Int) : Int := min (max n (-1099511627776)) 1099511627776
def plusI : Int → List Int → Int
  | a, [] => a
  | a, x :: l => plusI (satI (a + x)) l
set_option maxHeartbeats 0 in
theorem within_fn {spec : CallF} (hs : ∀ args h, spec 55 args h = none) {h : H} {x lo hi : Int} :
    WF Try.prog spec 55 [.one (.i .i64 x), .one (.i .i64 lo), .one (.i .i64 hi)] h fun v h1 => v = .one (.i .i64 (clampI x lo hi)) ∧ h1 = h := by
  refine WF_of Try.func55 rfl (hs _ _) (by rw [Try.ntmps55]; simp) (by rw [Try.ntmps55]; decide) ?_
  rw [Try.ntmps55, Try.results55]
  simp only [Sl.setMany_cons, Sl.setMany_nil, Nat.zero_add, Nat.reduceAdd]
  (repeat refine W_seq ?_); refine W_region ?_
  repeat (first
      | (refine WO_val (by simp (disch := first | omega | simp) only [go_sem, ↓reduceIte, Nat.reduceEqDiff, Nat.reduceAdd]; rfl) (by decide) ?_)
      | (refine WO_val (ex_bin (by simp only [go_sem, ↓reduceIte, Nat.reduceEqDiff]; rfl) (by simp only [go_sem, ↓reduceIte, Nat.reduceEqDiff]; rfl) in_neq) (by decide) ?_)
      | (refine WO_val (ex_min (by simp only [go_sem, ↓reduceIte, Nat.reduceEqDiff]; rfl) (by simp only [go_sem, ↓reduceIte, Nat.reduceEqDiff]; rfl)) (by decide) ?_)
      | (refine WO_val (ex_max (by simp only [go_sem, ↓reduceIte, Nat.reduceEqDiff]; rfl) (by simp only [go_sem, ↓reduceIte, Nat.reduceEqDiff]; rfl)) (by decide) ?_))
  refine WO_nil ?_; (repeat refine W_seq ?_)
  refine W_region ?_
  repeat (first
      | (refine WO_val (by simp (disch := first | omega | simp) only [go_sem, ↓reduceIte, Nat.reduceEqDiff, Nat.reduceAdd]; rfl) (by decide) ?_)
      | (refine WO_val (ex_bin (by simp only [go_sem, ↓reduceIte, Nat.reduceEqDiff]; rfl) (by simp only [go_sem, ↓reduceIte, Nat.reduceEqDiff]; rfl) in_neq) (by decide) ?_)
      | (refine WO_val (ex_min (by simp only [go_sem, ↓reduceIte, Nat.reduceEqDiff]; rfl) (by simp only [go_sem, ↓reduceIte, Nat.reduceEqDiff]; rfl)) (by decide) ?_)
      | (refine WO_val (ex_max (by simp only [go_sem, ↓reduceIte, Nat.reduceEqDiff]; rfl) (by simp only [go_sem, ↓reduceIte, Nat.reduceEqDiff]; rfl)) (by decide) ?_))
  refine WO_nil ?_; (repeat refine W_seq ?_)
  refine W_cond (ee) (fun hg => ?_) (fun hg => ?_)
  · have hg : hi ≠ -1 := by simpa using hg
    refine W_region ?_
    repeat (first
      | (refine WO_val (by simp (disch := first | omega | simp) only [go_sem, ↓reduceIte, Nat.reduceEqDiff, Nat.reduceAdd]; rfl) (by decide) ?_)
      | (refine WO_val (ex_bin (by simp only [go_sem, ↓reduceIte, Nat.reduceEqDiff]; rfl) (by simp only [go_sem, ↓reduceIte, Nat.reduceEqDiff]; rfl) in_neq) (by decide) ?_)
      | (refine WO_val (ex_min (by simp only [go_sem, ↓reduceIte, Nat.reduceEqDiff]; rfl) (by simp only [go_sem, ↓reduceIte, Nat.reduceEqDiff]; rfl)) (by decide) ?_)
      | (refine WO_val (ex_max (by simp only [go_sem, ↓reduceIte, Nat.reduceEqDiff]; rfl) (by simp only [go_sem, ↓reduceIte, Nat.reduceEqDiff]; rfl)) (by decide) ?_))
    refine WO_nil ?_; (repeat refine W_seq ?_)
    refine W_region ?_
    repeat (first
      | (refine WO_val (by simp (disch := first | omega | simp) only [go_sem, ↓reduceIte, Nat.reduceEqDiff, Nat.reduceAdd]; rfl) (by decide) ?_)
      | (refine WO_val (ex_bin (by simp only [go_sem, ↓reduceIte, Nat.reduceEqDiff]; rfl) (by simp only [go_sem, ↓reduceIte, Nat.reduceEqDiff]; rfl) in_neq) (by decide) ?_)
      | (refine WO_val (ex_min (by simp only [go_sem, ↓reduceIte, Nat.reduceEqDiff]; rfl) (by simp only [go_sem, ↓reduceIte, Nat.reduceEqDiff]; rfl)) (by decide) ?_)
      | (refine WO_val (ex_max (by simp only [go_sem, ↓reduceIte, Nat.reduceEqDiff]; rfl) (by simp only [go_sem, ↓reduceIte, Nat.reduceEqDiff]; rfl)) (by decide) ?_))
    refine WO_nil (W_ret ⟨.inr rfl, _, by (simp only [resultB, resB, parts, V.part, Sl.get_set', ↓reduceIte, Nat.reduceEqDiff] <;> rfl), ?_, rfl⟩)
    unfold clampI; rw [if_neg hg]
  · have hg : hi = -1 := by simpa using hg
    refine W_skip ?_
    repeat refine W_seq ?_
    refine W_region ?_
    repeat (first
      | (refine WO_val (by simp (disch := first | omega | simp) only [go_sem, ↓reduceIte, Nat.reduceEqDiff, Nat.reduceAdd]; rfl) (by decide) ?_)
      | (refine WO_val (ex_bin (by simp only [go_sem, ↓reduceIte, Nat.reduceEqDiff]; rfl) (by simp only [go_sem, ↓reduceIte, Nat.reduceEqDiff]; rfl) in_neq) (by decide) ?_)
      | (refine WO_val (ex_min (by simp only [go_sem, ↓reduceIte, Nat.reduceEqDiff]; rfl) (by simp only [go_sem, ↓reduceIte, Nat.reduceEqDiff]; rfl)) (by decide) ?_)
      | (refine WO_val (ex_max (by simp only [go_sem, ↓reduceIte, Nat.reduceEqDiff]; rfl) (by simp only [go_sem, ↓reduceIte, Nat.reduceEqDiff]; rfl)) (by decide) ?_))
    refine WO_nil (W_ret ⟨.inr rfl, _, by (simp only [resultB, resB, parts, V.part, Sl.get_set', ↓reduceIte, Nat.reduceEqDiff] <;> rfl), ?_, rfl⟩)
    unfold clampI; rw [if_pos hg]
set_option maxHeartbeats 0 in
theorem sat_fn {spec : CallF} (hs : ∀ args h, spec 68 args h = none) {h : H} {x : Int} :
    WF Try.prog spec 68 [.one (.i .i64 x)] h fun v h1 => v = .one (.i .i64 (satI x)) ∧ h1 = h := by
  refine WF_of Try.func68 rfl (hs _ _) (by rw [Try.ntmps68]; simp) (by rw [Try.ntmps68]; decide) ?_
  rw [Try.ntmps68, Try.results68]
  simp only [Sl.setMany_cons, Sl.setMany_nil, Nat.zero_add, Nat.reduceAdd]
  (repeat refine W_seq ?_); refine W_region ?_
  repeat (first
      | (refine WO_val (by simp (disch := first | omega | simp) only [go_sem, ↓reduceIte, Nat.reduceEqDiff, Nat.reduceAdd]; rfl) (by decide) ?_)
      | (refine WO_val (ex_min (by simp only [go_sem, ↓reduceIte, Nat.reduceEqDiff]; rfl) (by simp only [go_sem, ↓reduceIte, Nat.reduceEqDiff]; rfl)) (by decide) ?_)
      | (refine WO_val (ex_max (by simp only [go_sem, ↓reduceIte, Nat.reduceEqDiff]; rfl) (by simp only [go_sem, ↓reduceIte, Nat.reduceEqDiff]; rfl)) (by decide) ?_))
  refine WO_nil ?_; (repeat refine W_seq ?_)
  refine W_region ?_
  repeat (first
      | (refine WO_val (by simp (disch := first | omega | simp) only [go_sem, ↓reduceIte, Nat.reduceEqDiff, Nat.reduceAdd]; rfl) (by decide) ?_)
      | (refine WO_val (ex_min (by simp only [go_sem, ↓reduceIte, Nat.reduceEqDiff]; rfl) (by simp only [go_sem, ↓reduceIte, Nat.reduceEqDiff]; rfl)) (by decide) ?_)
      | (refine WO_val (ex_max (by simp only [go_sem, ↓reduceIte, Nat.reduceEqDiff]; rfl) (by simp only [go_sem, ↓reduceIte, Nat.reduceEqDiff]; rfl)) (by decide) ?_))
  exact WO_nil (W_ret ⟨.inr rfl, _, by (simp only [resultB, resB, parts, V.part, Sl.get_set', ↓reduceIte, Nat.reduceEqDiff] <;> rfl), rfl, rfl⟩)
theorem satI_in (n : Int) : -1099511627776 ≤ satI n ∧ satI n ≤ 1099511627776 := by unfold satI; omega
theorem plusI_take {a : Int} {l : List Int} {k : Nat} {x : Int} (hx : l[k]? = some x) : plusI a (l.take (k + 1)) = satI (plusI a (l.take k) + x) := by
  obtain ⟨hk, rfl⟩ := List.getElem?_eq_some_iff.1 hx
  rw [List.take_succ_eq_append_getElem hk]
  have : ∀ (a : Int) (l : List Int) (x : Int), plusI a (l ++ [x]) = satI (plusI a l + x) := by
    intro a l x
    induction l generalizing a with
    | nil => rfl
    | cons y l ih => exact ih _
  exact this _ _ _
theorem plusI_in {a : Int} {l : List Int} (ha : -1099511627776 ≤ a ∧ a ≤ 1099511627776) : -1099511627776 ≤ plusI a l ∧ plusI a l ≤ 1099511627776 := by
  induction l generalizing a with
  | nil => exact ha
  | cons x l ih => exact ih (satI_in _)
set_option maxHeartbeats 0 in
theorem plus_fn {spec : CallF} (hs : ∀ args h, spec 65 args h = none) (hs2 : ∀ args h, spec 68 args h = none) {h : H} {q c sz : Nat} {ex : Bool} {a : Int} {l : List Int} (ha : -1099511627776 ≤ a ∧ a ≤ 1099511627776) (hl : ∀ x ∈ l, -1099511627776 ≤ x ∧ x ≤ 1099511627776) (hn : l.length ≤ 1000) (hr : ∀ k x, l[k]? = some x → h.row q k 1 = some [.i .i64 x]) :
    WF Try.prog spec 65 [.one (.i .i64 a), .one (.sl q 0 l.length c sz ex)] h fun v h1 => v = .one (.i .i64 (plusI a l)) ∧ h1 = h := by
  refine WF_of Try.func65 rfl (hs _ _) (by rw [Try.ntmps65]; simp) (by rw [Try.ntmps65]; decide) ?_
  rw [Try.ntmps65, Try.results65]
  simp only [Sl.setMany_cons, Sl.setMany_nil, Nat.zero_add, Nat.reduceAdd]
  (repeat refine W_seq ?_); refine W_region ?_
  repeat (first
      | (refine WO_val (by simp (disch := first | omega | simp) only [go_sem, ↓reduceIte, Nat.reduceEqDiff, Nat.reduceAdd]; rfl) (by decide) ?_)
      | (refine WO_val (ex_bin (by simp only [go_sem, ↓reduceIte, Nat.reduceEqDiff]; rfl) (by simp only [go_sem, ↓reduceIte, Nat.reduceEqDiff]; rfl) (by first | exact in_add | exact in_lss)) (by decide) ?_; (try rw [wrap_id (by omega) (by omega)]))
      | (refine WO_val (ex_len el23 (by simp only [go_sem, ↓reduceIte, Nat.reduceEqDiff]; rfl)) (by decide) ?_))
  refine WO_nil ?_; (repeat refine W_seq ?_)
  refine W_scoped ?_
  repeat refine W_seq ?_
  (repeat refine W_seq ?_); refine W_region ?_
  repeat (first
      | (refine WO_val (by simp (disch := first | omega | simp) only [go_sem, ↓reduceIte, Nat.reduceEqDiff, Nat.reduceAdd]; rfl) (by decide) ?_)
      | (refine WO_val (ex_bin (by simp only [go_sem, ↓reduceIte, Nat.reduceEqDiff]; rfl) (by simp only [go_sem, ↓reduceIte, Nat.reduceEqDiff]; rfl) (by first | exact in_add | exact in_lss)) (by decide) ?_; (try rw [wrap_id (by omega) (by omega)]))
      | (refine WO_val (ex_len el23 (by simp only [go_sem, ↓reduceIte, Nat.reduceEqDiff]; rfl)) (by decide) ?_))
  refine WO_nil ?_; (repeat refine W_seq ?_)
  refine W_label ?_
  refine W_here (fun j T h1 => h1 = h ∧ ∃ k, j = l.length - k ∧ k ≤ l.length ∧ T.get 0 = some (.one (.i .i64 (plusI a (l.take k)))) ∧ T.get 1 = some (.one (.sl q 0 l.length c sz ex)) ∧ T.get 5 = some (.one (.i .i64 (k : Int)))) ?_ l.length _ _ ⟨rfl, 0, rfl, Nat.zero_le _, by (simp only [go_sem, ↓reduceIte, Nat.reduceEqDiff, List.take_zero, plusI] <;> first | rfl | simp), gs, gs⟩
  rintro j T h1 ih ⟨rfl, k, rfl, hk, t0, t1, t5⟩
  (repeat refine W_seq ?_); refine W_region ?_
  repeat (first
      | (refine WO_val (by simp (disch := first | omega | simp) only [go_sem, ↓reduceIte, Nat.reduceEqDiff, Nat.reduceAdd, t0, t1, t5]; rfl) (by decide) ?_)
      | (refine WO_val (ex_bin (by simp only [go_sem, ↓reduceIte, Nat.reduceEqDiff, t0, t1, t5]; rfl) (by simp only [go_sem, ↓reduceIte, Nat.reduceEqDiff, t0, t1, t5]; rfl) (by first | exact in_add | exact in_lss)) (by decide) ?_; (try rw [wrap_id (by omega) (by omega)]))
      | (refine WO_val (ex_len el23 (by simp only [go_sem, ↓reduceIte, Nat.reduceEqDiff, t0, t1, t5]; rfl)) (by decide) ?_))
  refine WO_nil ?_; (repeat refine W_seq ?_)
  have hp := plusI_in (l := l.take k) ha
  refine W_cond (ee) (fun hlt => ?_) (fun hge => ?_)
  · have hlt : (k : Int) < (l.length : Int) := by simpa using hlt
    have hlt : k < l.length := by omega
    obtain ⟨x, hx⟩ : ∃ x, l[k]? = some x := ⟨_, List.getElem?_eq_getElem hlt⟩
    have hxb := hl x (List.mem_of_getElem? hx)
    have r1 := hr k x hx
    (repeat refine W_seq ?_); refine W_region ?_
    repeat (first
      | (refine WO_val (by simp (disch := first | omega | simp) only [go_sem, ↓reduceIte, Nat.reduceEqDiff, Nat.reduceAdd, r1, t0, t1, t5]; rfl) (by decide) ?_)
      | (refine WO_val (ex_bin (by simp only [go_sem, ↓reduceIte, Nat.reduceEqDiff, t0, t1, t5]; rfl) (by simp only [go_sem, ↓reduceIte, Nat.reduceEqDiff, t0, t1, t5]; rfl) (by first | exact in_add | exact in_lss)) (by decide) ?_; (try rw [wrap_id (by omega) (by omega)]))
      | (refine WO_val (ex_len el23 (by simp only [go_sem, ↓reduceIte, Nat.reduceEqDiff, t0, t1, t5]; rfl)) (by decide) ?_))
    refine WO_fn (ee) (by simp) (by decide) ((sat_fn hs2).mono ?_)
    rintro v h2 ⟨rfl, rfl⟩
    repeat (first
      | (refine WO_val (by simp (disch := first | omega | simp) only [go_sem, ↓reduceIte, Nat.reduceEqDiff, Nat.reduceAdd]; rfl) (by decide) ?_)
      | (refine WO_val (ex_bin (by simp only [go_sem, ↓reduceIte, Nat.reduceEqDiff]; rfl) (by simp only [go_sem, ↓reduceIte, Nat.reduceEqDiff]; rfl) (by first | exact in_add | exact in_lss)) (by decide) ?_; (try rw [wrap_id (by omega) (by omega)]))
      | (refine WO_val (ex_len el23 (by simp only [go_sem, ↓reduceIte, Nat.reduceEqDiff]; rfl)) (by decide) ?_))
    refine WO_nil ?_; (repeat refine W_seq ?_)
    refine W_region ?_
    repeat (first
      | (refine WO_val (by simp (disch := first | omega | simp) only [go_sem, ↓reduceIte, Nat.reduceEqDiff, Nat.reduceAdd, t5]; rfl) (by decide) ?_)
      | (refine WO_val (ex_bin (by simp only [go_sem, ↓reduceIte, Nat.reduceEqDiff, t5]; rfl) (by simp only [go_sem, ↓reduceIte, Nat.reduceEqDiff, t5]; rfl) (by first | exact in_add | exact in_lss)) (by decide) ?_; (try rw [wrap_id (by omega) (by omega)]))
      | (refine WO_val (ex_len el23 (by simp only [go_sem, ↓reduceIte, Nat.reduceEqDiff, t5]; rfl)) (by decide) ?_))
    refine WO_nil ?_; (repeat refine W_seq ?_)
    refine W_goto ?_; (repeat first | refine thenQ_goto ?_ | refine blockQ_goto ?_); refine scope_jump (by rfl) ?_; (repeat refine W_seq ?_)
    refine W_skip ?_
    exact ih (l.length - (k + 1)) (by omega) _ _ ⟨rfl, k + 1, rfl, hlt, by simp only [go_sem, ↓reduceIte, Nat.reduceEqDiff, plusI_take hx], gt t1, gs⟩
  · have hge : ¬ (k : Int) < (l.length : Int) := by simpa using hge
    have hk : k = l.length := by omega
    subst hk
    rw [List.take_length] at t0
    refine W_skip ?_
    repeat refine W_seq ?_
    refine W_region ?_
    repeat (first
      | (refine WO_val (by simp (disch := first | omega | simp) only [go_sem, ↓reduceIte, Nat.reduceEqDiff, Nat.reduceAdd, t0]; rfl) (by decide) ?_)
      | (refine WO_val (ex_bin (by simp only [go_sem, ↓reduceIte, Nat.reduceEqDiff, t0]; rfl) (by simp only [go_sem, ↓reduceIte, Nat.reduceEqDiff, t0]; rfl) (by first | exact in_add | exact in_lss)) (by decide) ?_; (try rw [wrap_id (by omega) (by omega)]))
      | (refine WO_val (ex_len el23 (by simp only [go_sem, ↓reduceIte, Nat.reduceEqDiff, t0]; rfl)) (by decide) ?_))
    exact WO_nil (W_ret ⟨.inr rfl, _, by (simp only [resultB, resB, parts, V.part, Sl.get_set', ↓reduceIte, Nat.reduceEqDiff] <;> rfl), rfl, rfl⟩)
end Go.Ai
