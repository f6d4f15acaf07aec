/-
flex: an item's weight, what is free, which are open: what the machine comes to.
-/
import Derived.Test.YtjjlmmebkemlgaaAiRl
import Derived.Test.YtjjlmmebkemlgaaAiTy
set_option linter.unusedVariables false
set_option linter.unusedSimpArgs false
namespace Go.Ai
open Go.Proofs

structure Itm where
  base : Int
  mn : Int
  mx : Int
  gr : Int
  sh : Int
def Itm.cells (x : Itm) : List S := [.i .i64 x.base, .i .i64 x.mn, .i .i64 x.mx, .i .i64 x.gr, .i .i64 x.sh]
structure Itm.ok (x : Itm) : Prop where
  base : 0 ≤ x.base ∧ x.base ≤ 1099511627776
  mn : 0 ≤ x.mn ∧ x.mn ≤ 1099511627776
  mx : -1 ≤ x.mx ∧ x.mx ≤ 1099511627776
  gr : 0 ≤ x.gr ∧ x.gr ≤ 1048576
  sh : 0 ≤ x.sh ∧ x.sh ≤ 1048576
def Itm.weight (x : Itm) (grows : Bool) : Int := if grows then x.gr else min ((x.sh * x.base + 63) / 64) 1048576
theorem Itm.ok.mul {x : Itm} (k : x.ok) : 0 ≤ x.sh * x.base ∧ x.sh * x.base ≤ 1152921504606846976 := by
  refine ⟨Int.mul_nonneg k.sh.1 k.base.1, ?_⟩
  have h1 : x.sh * x.base ≤ 1048576 * x.base := Int.mul_le_mul_of_nonneg_right k.sh.2 k.base.1
  have := k.base.2
  omega
set_option maxHeartbeats 0 in
theorem weight_ok {spec : CallF} (hs : ∀ args h, spec 60 args h = none) {h : H} {bw : Nat} {sl f a : S} {gap room : Int} {grows : Bool} {x : Itm} (kx : x.ok) (ok : Ok h)
    (hc : Cells h bw 72 [sl, .i .i64 gap, .i .i64 room, .b grows, f, a]) (hb : bw < h.next) :
    WF Try.prog spec 60 [.one (.p bw 0), .agg x.cells] h fun v h1 => v = .one (.i .i64 (x.weight grows)) ∧ Up (· < h.next) h h1 ∧ h1.next = h.next + 1 ∧ Ok h1 := by
  obtain ⟨hm1, hm2⟩ := kx.mul
  refine WF_of Try.func60 rfl (hs _ _) (by rw [Try.ntmps60]; simp) (by rw [Try.ntmps60]; decide) ?_
  rw [Try.ntmps60, Try.results60]
  simp only [Sl.setMany_cons, Sl.setMany_nil, Nat.zero_add]
  refine W_seq (W_region ?_)
  refine WO_boxA (ee) ok (by decide) fun h1 n1 => ?_
  have c2 := n1.up.cells hb hc
  have c1 := n1.cells
  unfold Itm.cells at c1
  repeat (first
      | (refine WO_val (by simp (disch := first | omega | simp) only [go_sem, ↓reduceIte, Nat.reduceEqDiff, Nat.reduceAdd]; rfl) (by decide) ?_)
      | (refine WO_val (ex_bin (by simp only [go_sem, ↓reduceIte, Nat.reduceEqDiff]; rfl) (by simp only [go_sem, ↓reduceIte, Nat.reduceEqDiff]; rfl) (by first | exact in_add | exact in_sub | exact in_mul)) (by decide) ?_; (try rw [wrap_id (by omega) (by omega)]))
      | (refine WO_val (ex_quo (by simp only [go_sem, ↓reduceIte, Nat.reduceEqDiff]; rfl) (by simp only [go_sem, ↓reduceIte, Nat.reduceEqDiff]; rfl) (by decide)) (by decide) ?_; (try rw [wrap_id (by omega) (by omega)]))
      | (refine WO_val (ex_min (by simp only [go_sem, ↓reduceIte, Nat.reduceEqDiff]; rfl) (by simp only [go_sem, ↓reduceIte, Nat.reduceEqDiff]; rfl)) (by decide) ?_))
  refine WO_nil (W_seq (W_seq (W_region ?_)))
  repeat (first
      | (refine WO_val (by simp (disch := first | omega | simp) only [go_sem, ↓reduceIte, Nat.reduceEqDiff, Nat.reduceAdd, c2.row]; rfl) (by decide) ?_)
      | (refine WO_val (ex_bin (by simp only [go_sem, ↓reduceIte, Nat.reduceEqDiff]; rfl) (by simp only [go_sem, ↓reduceIte, Nat.reduceEqDiff]; rfl) (by first | exact in_add | exact in_sub | exact in_mul)) (by decide) ?_; (try rw [wrap_id (by omega) (by omega)]))
      | (refine WO_val (ex_quo (by simp only [go_sem, ↓reduceIte, Nat.reduceEqDiff]; rfl) (by simp only [go_sem, ↓reduceIte, Nat.reduceEqDiff]; rfl) (by decide)) (by decide) ?_; (try rw [wrap_id (by omega) (by omega)]))
      | (refine WO_val (ex_min (by simp only [go_sem, ↓reduceIte, Nat.reduceEqDiff]; rfl) (by simp only [go_sem, ↓reduceIte, Nat.reduceEqDiff]; rfl)) (by decide) ?_))
  refine WO_nil (W_cond (ee) ?_ ?_)
  · rintro rfl
    refine W_seq (W_region ?_)
    repeat (first
      | (refine WO_val (by simp (disch := first | omega | simp) only [go_sem, ↓reduceIte, Nat.reduceEqDiff, Nat.reduceAdd, c1.row]; rfl) (by decide) ?_)
      | (refine WO_val (ex_bin (by simp only [go_sem, ↓reduceIte, Nat.reduceEqDiff]; rfl) (by simp only [go_sem, ↓reduceIte, Nat.reduceEqDiff]; rfl) (by first | exact in_add | exact in_sub | exact in_mul)) (by decide) ?_; (try rw [wrap_id (by omega) (by omega)]))
      | (refine WO_val (ex_quo (by simp only [go_sem, ↓reduceIte, Nat.reduceEqDiff]; rfl) (by simp only [go_sem, ↓reduceIte, Nat.reduceEqDiff]; rfl) (by decide)) (by decide) ?_; (try rw [wrap_id (by omega) (by omega)]))
      | (refine WO_val (ex_min (by simp only [go_sem, ↓reduceIte, Nat.reduceEqDiff]; rfl) (by simp only [go_sem, ↓reduceIte, Nat.reduceEqDiff]; rfl)) (by decide) ?_))
    refine WO_nil (W_ret ?_)
    exact ⟨.inr rfl, _, by (simp only [resultB, resB, parts, V.part, Sl.get_set', ↓reduceIte, Nat.reduceEqDiff] <;> rfl), rfl, n1.up, n1.next, n1.ok⟩
  · rintro rfl
    refine W_skip (W_seq (W_region ?_))
    repeat (first
      | (refine WO_val (by simp (disch := first | omega | simp) only [go_sem, ↓reduceIte, Nat.reduceEqDiff, Nat.reduceAdd, c1.row]; rfl) (by decide) ?_)
      | (refine WO_val (ex_bin (by simp only [go_sem, ↓reduceIte, Nat.reduceEqDiff]; rfl) (by simp only [go_sem, ↓reduceIte, Nat.reduceEqDiff]; rfl) (by first | exact in_add | exact in_sub | exact in_mul)) (by decide) ?_; (try rw [wrap_id (by omega) (by omega)]))
      | (refine WO_val (ex_quo (by simp only [go_sem, ↓reduceIte, Nat.reduceEqDiff]; rfl) (by simp only [go_sem, ↓reduceIte, Nat.reduceEqDiff]; rfl) (by decide)) (by decide) ?_; (try rw [wrap_id (by omega) (by omega)]))
      | (refine WO_val (ex_min (by simp only [go_sem, ↓reduceIte, Nat.reduceEqDiff]; rfl) (by simp only [go_sem, ↓reduceIte, Nat.reduceEqDiff]; rfl)) (by decide) ?_))
    refine WO_nil (W_ret ?_)
    refine ⟨.inr rfl, _, by (simp only [resultB, resB, parts, V.part, Sl.get_set', ↓reduceIte, Nat.reduceEqDiff] <;> rfl), ?_, n1.up, n1.next, n1.ok⟩
    have e : (x.sh * x.base + 64 + -1).tdiv 64 = (x.sh * x.base + 63) / 64 := by rw [Int.tdiv_eq_ediv_of_nonneg (by omega)]; congr 1; omega
    rw [e, wrap_id (by omega) (by omega)]
    rfl
end Go.Ai
