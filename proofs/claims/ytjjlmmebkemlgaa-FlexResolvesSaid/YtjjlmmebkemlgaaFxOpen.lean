/-
flex: which items are open: what the machine comes to.
-/
import Derived.Test.YtjjlmmebkemlgaaFxWeight
set_option linter.unusedVariables false
set_option linter.unusedSimpArgs false
namespace Go.Ai
open Go.Proofs

/-- Numbers as cells. -/
def idx (l : List Nat) : List S := l.map fun (k : Nat) => S.i .i64 (k : Int)
def bools (l : List Bool) : List S := l.map S.b
def nums (l : List Int) : List S := l.map (S.i .i64)
/-- The places that are not fixed, from a number on. -/
def opens : Nat → List Bool → List Nat
  | _, [] => []
  | k, b :: l => if b then opens (k + 1) l else k :: opens (k + 1) l
theorem opens_append (k : Nat) (l m : List Bool) : opens k (l ++ m) = opens k l ++ opens (k + l.length) m := by
  induction l generalizing k with
  | nil => simp [opens]
  | cons b l ih =>
    simp only [List.cons_append, opens, ih, List.length_cons]
    rw [show k + 1 + l.length = k + (l.length + 1) by omega]
    split <;> simp
theorem opens_length (k : Nat) (l : List Bool) : (opens k l).length ≤ l.length := by
  induction l generalizing k with
  | nil => simp [opens]
  | cons b l ih => simp only [opens]; split <;> simp [ih]; have := ih (k + 1); omega
theorem opens_take {l : List Bool} {k : Nat} {b : Bool} (hb : l[k]? = some b) : opens 0 (l.take (k + 1)) = opens 0 (l.take k) ++ (if b then [] else [k]) := by
  obtain ⟨hk, rfl⟩ := List.getElem?_eq_some_iff.1 hb
  rw [List.take_succ_eq_append_getElem hk, opens_append]
  simp [opens, Nat.min_eq_left (Nat.le_of_lt hk)]
theorem idx_append (l m : List Nat) : idx (l ++ m) = idx l ++ idx m := by simp [idx]
theorem Grown.same {h : H} {v : S} {n0 e s : Nat} {xs ys : List S} (k : Grown h v n0 e s xs) (q : xs = ys) : Grown h v n0 e s ys := q ▸ k
set_option maxHeartbeats 0 in
theorem open_ok {spec : CallF} (hs : ∀ args h, spec 52 args h = none) {h : H} {bw bf : Nat} {ex : Bool} {a0 a1 a2 a3 a4 : S} {fx : List Bool} (ok : Ok h)
    (hc : Cells h bw 72 [a0, a1, a2, a3, a4, .sl bf 0 fx.length fx.length 1 ex]) (hb : bw < h.next) (hf : Cells h bf 4 (bools fx)) (hbf : bf < h.next) (hn : fx.length ≤ 1000) :
    WF Try.prog spec 52 [.one (.p bw 0)] h fun v h1 => ∃ x, v = .one x ∧ Grown h1 x h.next 3 1 (idx (opens 0 fx)) ∧ Up (· < h.next) h h1 ∧ Ok h1 := by
  refine WF_of Try.func52 rfl (hs _ _) (by rw [Try.ntmps52]; simp) (by rw [Try.ntmps52]; decide) ?_
  rw [Try.ntmps52, Try.results52]
  simp only [Sl.setMany_cons, Sl.setMany_nil, Nat.zero_add]
  (repeat refine W_seq ?_); refine W_region ?_
  repeat (first
      | (refine WO_val (by simp (disch := first | omega | simp) only [go_sem, ↓reduceIte, Nat.reduceEqDiff, Nat.reduceAdd]; rfl) (by decide) ?_)
      | (refine WO_val (ex_bin (by simp only [go_sem, ↓reduceIte, Nat.reduceEqDiff]; rfl) (by simp only [go_sem, ↓reduceIte, Nat.reduceEqDiff]; rfl) (by first | exact in_add | exact in_lss)) (by decide) ?_; (try rw [wrap_id (by omega) (by omega)]))
      | (refine WO_val (ex_not (by simp only [go_sem, ↓reduceIte, Nat.reduceEqDiff]; rfl)) (by decide) ?_)
      | (refine WO_val (ex_len el61 (by simp only [go_sem, ↓reduceIte, Nat.reduceEqDiff]; rfl)) (by decide) ?_))
  refine WO_nil ?_; (repeat refine W_seq ?_)
  refine W_region ?_
  repeat (first
      | (refine WO_val (by simp (disch := first | omega | simp) only [go_sem, ↓reduceIte, Nat.reduceEqDiff, Nat.reduceAdd, hc.row]; rfl) (by decide) ?_)
      | (refine WO_val (ex_bin (by simp only [go_sem, ↓reduceIte, Nat.reduceEqDiff]; rfl) (by simp only [go_sem, ↓reduceIte, Nat.reduceEqDiff]; rfl) (by first | exact in_add | exact in_lss)) (by decide) ?_; (try rw [wrap_id (by omega) (by omega)]))
      | (refine WO_val (ex_not (by simp only [go_sem, ↓reduceIte, Nat.reduceEqDiff]; rfl)) (by decide) ?_)
      | (refine WO_val (ex_len el61 (by simp only [go_sem, ↓reduceIte, Nat.reduceEqDiff]; rfl)) (by decide) ?_))
  refine WO_nil ?_; (repeat refine W_seq ?_)
  refine W_block (W_rounds (fun j T h1 => ∃ k x, j = fx.length - k ∧ k ≤ fx.length ∧ T.get 2 = some (.one x) ∧ T.get 8 = some (.one (.sl bf 0 fx.length fx.length 1 ex)) ∧ T.get 9 = some (.one (.i .i64 (fx.length : Int))) ∧ T.get 10 = some (.one (.i .i64 (k : Int))) ∧ Grown h1 x h.next 3 1 (idx (opens 0 (fx.take k))) ∧ Up (· < h.next) h h1 ∧ Ok h1) ?_ fx.length _ _ ?_)
  rotate_left
  · exact ⟨0, .sl0, rfl, Nat.zero_le _, by simp only [go_sem, ↓reduceIte, Nat.reduceEqDiff], by simp only [go_sem, ↓reduceIte, Nat.reduceEqDiff], by simp only [go_sem, ↓reduceIte, Nat.reduceEqDiff], ee, .nil, .refl _ _, ok⟩
  rintro j T h1 ⟨k, x, rfl, hk, t2, t8, t9, t10, gx, u1, o1⟩
  (repeat refine W_seq ?_); refine W_region ?_
  repeat (first
      | (refine WO_val (by simp (disch := first | omega | simp) only [go_sem, ↓reduceIte, Nat.reduceEqDiff, Nat.reduceAdd, t9, t10]; rfl) (by decide) ?_)
      | (refine WO_val (ex_bin (by simp only [go_sem, ↓reduceIte, Nat.reduceEqDiff, t9, t10]; rfl) (by simp only [go_sem, ↓reduceIte, Nat.reduceEqDiff, t9, t10]; rfl) (by first | exact in_add | exact in_lss)) (by decide) ?_; (try rw [wrap_id (by omega) (by omega)]))
      | (refine WO_val (ex_not (by simp only [go_sem, ↓reduceIte, Nat.reduceEqDiff, t9, t10]; rfl)) (by decide) ?_)
      | (refine WO_val (ex_len el61 (by simp only [go_sem, ↓reduceIte, Nat.reduceEqDiff, t9, t10]; rfl)) (by decide) ?_))
  refine WO_nil ?_; (repeat refine W_seq ?_)
  refine W_cond (ee) (fun hlt => W_skip ?_) (fun hge => W_exit ?_)
  · have hlt : (k : Int) < (fx.length : Int) := by simpa using hlt
    have hlt : k < fx.length := by omega
    have hx : fx[k]? = some fx[k] := List.getElem?_eq_getElem hlt
    have r1 : h1.row bf k 1 = some [.b fx[k]] := (u1.cells hbf hf).at1 (by simp [bools, hx])
    repeat refine W_seq ?_
    refine W_block ?_
    (repeat refine W_seq ?_); refine W_region ?_
    repeat (first
      | (refine WO_val (by simp (disch := first | omega | simp) only [go_sem, ↓reduceIte, Nat.reduceEqDiff, Nat.reduceAdd, r1, t8, t9, t10]; rfl) (by decide) ?_)
      | (refine WO_val (ex_bin (by simp only [go_sem, ↓reduceIte, Nat.reduceEqDiff, t8, t9, t10]; rfl) (by simp only [go_sem, ↓reduceIte, Nat.reduceEqDiff, t8, t9, t10]; rfl) (by first | exact in_add | exact in_lss)) (by decide) ?_; (try rw [wrap_id (by omega) (by omega)]))
      | (refine WO_val (ex_not (by simp only [go_sem, ↓reduceIte, Nat.reduceEqDiff, t8, t9, t10]; rfl)) (by decide) ?_)
      | (refine WO_val (ex_len el61 (by simp only [go_sem, ↓reduceIte, Nat.reduceEqDiff, t8, t9, t10]; rfl)) (by decide) ?_))
    refine WO_nil ?_; (repeat refine W_seq ?_)
    refine W_region ?_
    repeat (first
      | (refine WO_val (by simp (disch := first | omega | simp) only [go_sem, ↓reduceIte, Nat.reduceEqDiff, Nat.reduceAdd]; rfl) (by decide) ?_)
      | (refine WO_val (ex_bin (by simp only [go_sem, ↓reduceIte, Nat.reduceEqDiff]; rfl) (by simp only [go_sem, ↓reduceIte, Nat.reduceEqDiff]; rfl) (by first | exact in_add | exact in_lss)) (by decide) ?_; (try rw [wrap_id (by omega) (by omega)]))
      | (refine WO_val (ex_not (by simp only [go_sem, ↓reduceIte, Nat.reduceEqDiff]; rfl)) (by decide) ?_)
      | (refine WO_val (ex_len el61 (by simp only [go_sem, ↓reduceIte, Nat.reduceEqDiff]; rfl)) (by decide) ?_))
    refine WO_nil ?_; (repeat refine W_seq ?_)
    refine W_cond (ee) (fun hb1 => ?_) (fun hb1 => W_skip ?_)
    · refine W_region ?_
      repeat (first
      | (refine WO_val (by simp (disch := first | omega | simp) only [go_sem, ↓reduceIte, Nat.reduceEqDiff, Nat.reduceAdd, t2]; rfl) (by decide) ?_)
      | (refine WO_val (ex_bin (by simp only [go_sem, ↓reduceIte, Nat.reduceEqDiff, t2]; rfl) (by simp only [go_sem, ↓reduceIte, Nat.reduceEqDiff, t2]; rfl) (by first | exact in_add | exact in_lss)) (by decide) ?_; (try rw [wrap_id (by omega) (by omega)]))
      | (refine WO_val (ex_not (by simp only [go_sem, ↓reduceIte, Nat.reduceEqDiff, t2]; rfl)) (by decide) ?_)
      | (refine WO_val (ex_len el61 (by simp only [go_sem, ↓reduceIte, Nat.reduceEqDiff, t2]; rfl)) (by decide) ?_))
      refine WO_bs1 el23 ⟨_, ze23⟩ (ee) o1 (by decide) fun h2 n2 => ?_
      have g2 := gx.up n2.up fun q hq => (gx.lt hq).2
      have hnn := u1.next
      refine WO_app (n0 := h.next) ap23_23 (by (simp only [go_sem, ↓reduceIte, Nat.reduceEqDiff, t2] <;> rfl)) (ee) n2.cells rfl g2 n2.ok (by have := n2.next; omega) (m := (opens 0 (fx.take k)).length) (by simp [idx]) (by have := opens_length 0 (fx.take k); simp at this; omega) (by have := opens_length 0 (fx.take k); simp at this; omega) (by decide) fun x3 h3 g3 => ?_
      repeat (first
      | (refine WO_val (by simp (disch := first | omega | simp) only [go_sem, ↓reduceIte, Nat.reduceEqDiff, Nat.reduceAdd]; rfl) (by decide) ?_)
      | (refine WO_val (ex_bin (by simp only [go_sem, ↓reduceIte, Nat.reduceEqDiff]; rfl) (by simp only [go_sem, ↓reduceIte, Nat.reduceEqDiff]; rfl) (by first | exact in_add | exact in_lss)) (by decide) ?_; (try rw [wrap_id (by omega) (by omega)]))
      | (refine WO_val (ex_not (by simp only [go_sem, ↓reduceIte, Nat.reduceEqDiff]; rfl)) (by decide) ?_)
      | (refine WO_val (ex_len el61 (by simp only [go_sem, ↓reduceIte, Nat.reduceEqDiff]; rfl)) (by decide) ?_))
      refine WO_nil ?_; (repeat refine W_seq ?_)
      refine W_region ?_
      repeat (first
      | (refine WO_val (by simp (disch := first | omega | simp) only [go_sem, ↓reduceIte, Nat.reduceEqDiff, Nat.reduceAdd, t10]; rfl) (by decide) ?_)
      | (refine WO_val (ex_bin (by simp only [go_sem, ↓reduceIte, Nat.reduceEqDiff, t10]; rfl) (by simp only [go_sem, ↓reduceIte, Nat.reduceEqDiff, t10]; rfl) (by first | exact in_add | exact in_lss)) (by decide) ?_; (try rw [wrap_id (by omega) (by omega)]))
      | (refine WO_val (ex_not (by simp only [go_sem, ↓reduceIte, Nat.reduceEqDiff, t10]; rfl)) (by decide) ?_)
      | (refine WO_val (ex_len el61 (by simp only [go_sem, ↓reduceIte, Nat.reduceEqDiff, t10]; rfl)) (by decide) ?_))
      refine WO_nil ?_
      have e : opens 0 (fx.take (k + 1)) = opens 0 (fx.take k) ++ [k] := by rw [opens_take hx, if_neg (by simpa using hb1)]
      exact ⟨fx.length - (k + 1), by omega, k + 1, x3, rfl, hlt, gs, gt t8, gt t9, gs, g3.grown.same (by rw [e, idx_append]; rfl), (u1.trans (n2.up.mono fun b hb => by omega)).trans (g3.below g2 (by have := n2.next; omega)), g3.ok⟩
    · refine W_region ?_
      repeat (first
      | (refine WO_val (by simp (disch := first | omega | simp) only [go_sem, ↓reduceIte, Nat.reduceEqDiff, Nat.reduceAdd, t10]; rfl) (by decide) ?_)
      | (refine WO_val (ex_bin (by simp only [go_sem, ↓reduceIte, Nat.reduceEqDiff, t10]; rfl) (by simp only [go_sem, ↓reduceIte, Nat.reduceEqDiff, t10]; rfl) (by first | exact in_add | exact in_lss)) (by decide) ?_; (try rw [wrap_id (by omega) (by omega)]))
      | (refine WO_val (ex_not (by simp only [go_sem, ↓reduceIte, Nat.reduceEqDiff, t10]; rfl)) (by decide) ?_)
      | (refine WO_val (ex_len el61 (by simp only [go_sem, ↓reduceIte, Nat.reduceEqDiff, t10]; rfl)) (by decide) ?_))
      refine WO_nil ?_
      have e : opens 0 (fx.take (k + 1)) = opens 0 (fx.take k) := by rw [opens_take hx, if_pos (by simpa using hb1)]; simp
      exact ⟨fx.length - (k + 1), by omega, k + 1, x, rfl, hlt, gt t2, gt t8, gt t9, gs, gx.same (by rw [e]), u1, o1⟩
  · have hge : ¬ (k : Int) < (fx.length : Int) := by simpa using hge
    have hk : k = fx.length := by omega
    subst hk
    refine ⟨fun _ => ?_, fun hne => absurd rfl hne⟩
    (repeat refine W_seq ?_); refine W_region ?_
    repeat (first
      | (refine WO_val (by simp (disch := first | omega | simp) only [go_sem, ↓reduceIte, Nat.reduceEqDiff, Nat.reduceAdd, t2]; rfl) (by decide) ?_)
      | (refine WO_val (ex_bin (by simp only [go_sem, ↓reduceIte, Nat.reduceEqDiff, t2]; rfl) (by simp only [go_sem, ↓reduceIte, Nat.reduceEqDiff, t2]; rfl) (by first | exact in_add | exact in_lss)) (by decide) ?_; (try rw [wrap_id (by omega) (by omega)]))
      | (refine WO_val (ex_not (by simp only [go_sem, ↓reduceIte, Nat.reduceEqDiff, t2]; rfl)) (by decide) ?_)
      | (refine WO_val (ex_len el61 (by simp only [go_sem, ↓reduceIte, Nat.reduceEqDiff, t2]; rfl)) (by decide) ?_))
    refine WO_nil (W_ret ⟨.inr rfl, _, by (simp only [resultB, resB, parts, V.part, Sl.get_set', ↓reduceIte, Nat.reduceEqDiff] <;> rfl), x, rfl, gx.same (by rw [List.take_length]), u1, o1⟩)
end Go.Ai
