/-
LayoutWraps, part 21 of 48: FxWeight FxOpen FxFree.
-/
import Derived.Test.YthacbaagffpkoaaLw20
set_option linter.unusedVariables false
set_option linter.unusedSimpArgs false
set_option maxRecDepth 100000
set_option maxHeartbeats 0
section
namespace Go.Ai
open Go.Proofs
theorem Ga0 {p : Prop} (h : p := by simp only [go_sem, ↓reduceIte, Nat.reduceEqDiff, Nat.reduceAdd]; rfl) : p := h
theorem Ga1 {p q0 : Prop} (x0 : q0) (h : q0 → p := by intro x0; simp only [go_sem, ↓reduceIte, Nat.reduceEqDiff, Nat.reduceAdd, x0]; rfl) : p := h x0
theorem Ga2 {p q0 q1 : Prop} (x0 : q0) (x1 : q1) (h : q0 → q1 → p := by intro x0 x1; simp only [go_sem, ↓reduceIte, Nat.reduceEqDiff, Nat.reduceAdd, x0, x1]; rfl) : p := h x0 x1
theorem Ga3 {p q0 q1 q2 : Prop} (x0 : q0) (x1 : q1) (x2 : q2) (h : q0 → q1 → q2 → p := by intro x0 x1 x2; simp only [go_sem, ↓reduceIte, Nat.reduceEqDiff, Nat.reduceAdd, x0, x1, x2]; rfl) : p := h x0 x1 x2
theorem Ga4 {p q0 q1 q2 q3 : Prop} (x0 : q0) (x1 : q1) (x2 : q2) (x3 : q3) (h : q0 → q1 → q2 → q3 → p := by intro x0 x1 x2 x3; simp only [go_sem, ↓reduceIte, Nat.reduceEqDiff, Nat.reduceAdd, x0, x1, x2, x3]; rfl) : p := h x0 x1 x2 x3
theorem Ga5 {p q0 q1 q2 q3 q4 : Prop} (x0 : q0) (x1 : q1) (x2 : q2) (x3 : q3) (x4 : q4) (h : q0 → q1 → q2 → q3 → q4 → p := by intro x0 x1 x2 x3 x4; simp only [go_sem, ↓reduceIte, Nat.reduceEqDiff, Nat.reduceAdd, x0, x1, x2, x3, x4]; rfl) : p := h x0 x1 x2 x3 x4
theorem Ga6 {p q0 q1 q2 q3 q4 q5 : Prop} (x0 : q0) (x1 : q1) (x2 : q2) (x3 : q3) (x4 : q4) (x5 : q5) (h : q0 → q1 → q2 → q3 → q4 → q5 → p := by intro x0 x1 x2 x3 x4 x5; simp only [go_sem, ↓reduceIte, Nat.reduceEqDiff, Nat.reduceAdd, x0, x1, x2, x3, x4, x5]; rfl) : p := h x0 x1 x2 x3 x4 x5
theorem Ga9 {p q0 q1 q2 q3 q4 q5 q6 q7 q8 : Prop} (x0 : q0) (x1 : q1) (x2 : q2) (x3 : q3) (x4 : q4) (x5 : q5) (x6 : q6) (x7 : q7) (x8 : q8) (h : q0 → q1 → q2 → q3 → q4 → q5 → q6 → q7 → q8 → p := by intro x0 x1 x2 x3 x4 x5 x6 x7 x8; simp only [go_sem, ↓reduceIte, Nat.reduceEqDiff, Nat.reduceAdd, x0, x1, x2, x3, x4, x5, x6, x7, x8]; rfl) : p := h x0 x1 x2 x3 x4 x5 x6 x7 x8
theorem Gd0 {p : Prop} (h : p := by simp (disch := first | omega | simp) only [go_sem, ↓reduceIte, Nat.reduceEqDiff, Nat.reduceAdd]; rfl) : p := h
theorem Gd1 {p q0 : Prop} (x0 : q0) (h : q0 → p := by intro x0; simp (disch := first | omega | simp) only [go_sem, ↓reduceIte, Nat.reduceEqDiff, Nat.reduceAdd, x0]; rfl) : p := h x0
theorem Gd2 {p q0 q1 : Prop} (x0 : q0) (x1 : q1) (h : q0 → q1 → p := by intro x0 x1; simp (disch := first | omega | simp) only [go_sem, ↓reduceIte, Nat.reduceEqDiff, Nat.reduceAdd, x0, x1]; rfl) : p := h x0 x1
theorem Gd3 {p q0 q1 q2 : Prop} (x0 : q0) (x1 : q1) (x2 : q2) (h : q0 → q1 → q2 → p := by intro x0 x1 x2; simp (disch := first | omega | simp) only [go_sem, ↓reduceIte, Nat.reduceEqDiff, Nat.reduceAdd, x0, x1, x2]; rfl) : p := h x0 x1 x2
theorem Gd4 {p q0 q1 q2 q3 : Prop} (x0 : q0) (x1 : q1) (x2 : q2) (x3 : q3) (h : q0 → q1 → q2 → q3 → p := by intro x0 x1 x2 x3; simp (disch := first | omega | simp) only [go_sem, ↓reduceIte, Nat.reduceEqDiff, Nat.reduceAdd, x0, x1, x2, x3]; rfl) : p := h x0 x1 x2 x3
theorem Gd5 {p q0 q1 q2 q3 q4 : Prop} (x0 : q0) (x1 : q1) (x2 : q2) (x3 : q3) (x4 : q4) (h : q0 → q1 → q2 → q3 → q4 → p := by intro x0 x1 x2 x3 x4; simp (disch := first | omega | simp) only [go_sem, ↓reduceIte, Nat.reduceEqDiff, Nat.reduceAdd, x0, x1, x2, x3, x4]; rfl) : p := h x0 x1 x2 x3 x4
theorem Gd6 {p q0 q1 q2 q3 q4 q5 : Prop} (x0 : q0) (x1 : q1) (x2 : q2) (x3 : q3) (x4 : q4) (x5 : q5) (h : q0 → q1 → q2 → q3 → q4 → q5 → p := by intro x0 x1 x2 x3 x4 x5; simp (disch := first | omega | simp) only [go_sem, ↓reduceIte, Nat.reduceEqDiff, Nat.reduceAdd, x0, x1, x2, x3, x4, x5]; rfl) : p := h x0 x1 x2 x3 x4 x5
theorem Gd7 {p q0 q1 q2 q3 q4 q5 q6 : Prop} (x0 : q0) (x1 : q1) (x2 : q2) (x3 : q3) (x4 : q4) (x5 : q5) (x6 : q6) (h : q0 → q1 → q2 → q3 → q4 → q5 → q6 → p := by intro x0 x1 x2 x3 x4 x5 x6; simp (disch := first | omega | simp) only [go_sem, ↓reduceIte, Nat.reduceEqDiff, Nat.reduceAdd, x0, x1, x2, x3, x4, x5, x6]; rfl) : p := h x0 x1 x2 x3 x4 x5 x6
theorem Gd9 {p q0 q1 q2 q3 q4 q5 q6 q7 q8 : Prop} (x0 : q0) (x1 : q1) (x2 : q2) (x3 : q3) (x4 : q4) (x5 : q5) (x6 : q6) (x7 : q7) (x8 : q8) (h : q0 → q1 → q2 → q3 → q4 → q5 → q6 → q7 → q8 → p := by intro x0 x1 x2 x3 x4 x5 x6 x7 x8; simp (disch := first | omega | simp) only [go_sem, ↓reduceIte, Nat.reduceEqDiff, Nat.reduceAdd, x0, x1, x2, x3, x4, x5, x6, x7, x8]; rfl) : p := h x0 x1 x2 x3 x4 x5 x6 x7 x8
theorem Gs0 {p : Prop} (h : p := by simp only [go_sem, ↓reduceIte, Nat.reduceEqDiff]; rfl) : p := h
theorem Gs1 {p q0 : Prop} (x0 : q0) (h : q0 → p := by intro x0; simp only [go_sem, ↓reduceIte, Nat.reduceEqDiff, x0]; rfl) : p := h x0
theorem Gs2 {p q0 q1 : Prop} (x0 : q0) (x1 : q1) (h : q0 → q1 → p := by intro x0 x1; simp only [go_sem, ↓reduceIte, Nat.reduceEqDiff, x0, x1]; rfl) : p := h x0 x1
theorem Gs3 {p q0 q1 q2 : Prop} (x0 : q0) (x1 : q1) (x2 : q2) (h : q0 → q1 → q2 → p := by intro x0 x1 x2; simp only [go_sem, ↓reduceIte, Nat.reduceEqDiff, x0, x1, x2]; rfl) : p := h x0 x1 x2
theorem Gs4 {p q0 q1 q2 q3 : Prop} (x0 : q0) (x1 : q1) (x2 : q2) (x3 : q3) (h : q0 → q1 → q2 → q3 → p := by intro x0 x1 x2 x3; simp only [go_sem, ↓reduceIte, Nat.reduceEqDiff, x0, x1, x2, x3]; rfl) : p := h x0 x1 x2 x3
theorem Gs5 {p q0 q1 q2 q3 q4 : Prop} (x0 : q0) (x1 : q1) (x2 : q2) (x3 : q3) (x4 : q4) (h : q0 → q1 → q2 → q3 → q4 → p := by intro x0 x1 x2 x3 x4; simp only [go_sem, ↓reduceIte, Nat.reduceEqDiff, x0, x1, x2, x3, x4]; rfl) : p := h x0 x1 x2 x3 x4
theorem Gs6 {p q0 q1 q2 q3 q4 q5 : Prop} (x0 : q0) (x1 : q1) (x2 : q2) (x3 : q3) (x4 : q4) (x5 : q5) (h : q0 → q1 → q2 → q3 → q4 → q5 → p := by intro x0 x1 x2 x3 x4 x5; simp only [go_sem, ↓reduceIte, Nat.reduceEqDiff, x0, x1, x2, x3, x4, x5]; rfl) : p := h x0 x1 x2 x3 x4 x5
theorem Gs9 {p q0 q1 q2 q3 q4 q5 q6 q7 q8 : Prop} (x0 : q0) (x1 : q1) (x2 : q2) (x3 : q3) (x4 : q4) (x5 : q5) (x6 : q6) (x7 : q7) (x8 : q8) (h : q0 → q1 → q2 → q3 → q4 → q5 → q6 → q7 → q8 → p := by intro x0 x1 x2 x3 x4 x5 x6 x7 x8; simp only [go_sem, ↓reduceIte, Nat.reduceEqDiff, x0, x1, x2, x3, x4, x5, x6, x7, x8]; rfl) : p := h x0 x1 x2 x3 x4 x5 x6 x7 x8
theorem Gt1 {p q0 : Prop} (x0 : q0) (h : q0 → p := by intro x0; simp only [go_sem, ↓reduceIte, Nat.reduceEqDiff, x0] <;> rfl) : p := h x0
theorem Gt2 {p q0 q1 : Prop} (x0 : q0) (x1 : q1) (h : q0 → q1 → p := by intro x0 x1; simp only [go_sem, ↓reduceIte, Nat.reduceEqDiff, x0, x1] <;> rfl) : p := h x0 x1
theorem Gt3 {p q0 q1 q2 : Prop} (x0 : q0) (x1 : q1) (x2 : q2) (h : q0 → q1 → q2 → p := by intro x0 x1 x2; simp only [go_sem, ↓reduceIte, Nat.reduceEqDiff, x0, x1, x2] <;> rfl) : p := h x0 x1 x2
theorem Gt4 {p q0 q1 q2 q3 : Prop} (x0 : q0) (x1 : q1) (x2 : q2) (x3 : q3) (h : q0 → q1 → q2 → q3 → p := by intro x0 x1 x2 x3; simp only [go_sem, ↓reduceIte, Nat.reduceEqDiff, x0, x1, x2, x3] <;> rfl) : p := h x0 x1 x2 x3
theorem Gt5 {p q0 q1 q2 q3 q4 : Prop} (x0 : q0) (x1 : q1) (x2 : q2) (x3 : q3) (x4 : q4) (h : q0 → q1 → q2 → q3 → q4 → p := by intro x0 x1 x2 x3 x4; simp only [go_sem, ↓reduceIte, Nat.reduceEqDiff, x0, x1, x2, x3, x4] <;> rfl) : p := h x0 x1 x2 x3 x4
theorem Gu1 {p q0 : Prop} (x0 : q0) (h : q0 → p := by intro x0; simp only [go_sem, ↓reduceIte, Nat.reduceEqDiff, x0] <;> first | rfl | simp) : p := h x0
theorem Gu2 {p q0 q1 : Prop} (x0 : q0) (x1 : q1) (h : q0 → q1 → p := by intro x0 x1; simp only [go_sem, ↓reduceIte, Nat.reduceEqDiff, x0, x1] <;> first | rfl | simp) : p := h x0 x1
theorem Gu3 {p q0 q1 q2 : Prop} (x0 : q0) (x1 : q1) (x2 : q2) (h : q0 → q1 → q2 → p := by intro x0 x1 x2; simp only [go_sem, ↓reduceIte, Nat.reduceEqDiff, x0, x1, x2] <;> first | rfl | simp) : p := h x0 x1 x2
theorem Om {p : Prop} (h : p := by omega) : p := h
theorem Dc {p : Prop} (h : p := by decide) : p := h
theorem OffA {p : Prop} (h : p := by (try simp only [cond_true, cond_false]); repeat (first | exact Off.nil | refine Off.seen rfl ?_ | refine Off.off (by omega) ?_)) : p := h
theorem RbA {p : Prop} (h : p := by (simp only [resultB, resB, parts, V.part, Sl.get_set', ↓reduceIte, Nat.reduceEqDiff] <;> rfl)) : p := h
end Go.Ai
namespace Go.Ai
open Go.Proofs
structure Itm where
 base : Int
 mn : Int
 mx : Int
 gr : Int
 sh : Int
def Itm.cells (x : Itm) : List S := [.i .i64 x.base, .i .i64 x.mn, .i .i64 x.mx, .i .i64 x.gr, .i .i64 x.sh]
structure Itm.ok (x : Itm) : Prop where
 base : 0 ≤ x.base ∧ x.base ≤ 1099511627776
 mn : 0 ≤ x.mn ∧ x.mn ≤ 1099511627776
 mx : -1 ≤ x.mx ∧ x.mx ≤ 1099511627776
 gr : 0 ≤ x.gr ∧ x.gr ≤ 1048576
 sh : 0 ≤ x.sh ∧ x.sh ≤ 1048576
def Itm.weight (x : Itm) (grows : Bool) : Int := if grows then x.gr else min ((x.sh * x.base + 63) / 64) 1048576
theorem Itm.ok.mul {x : Itm} (k : x.ok) : 0 ≤ x.sh * x.base ∧ x.sh * x.base ≤ 1152921504606846976 := by
 refine ⟨Int.mul_nonneg k.sh.1 k.base.1, ?_⟩;have h1 : x.sh * x.base ≤ 1048576 * x.base := Int.mul_le_mul_of_nonneg_right k.sh.2 k.base.1;have := k.base.2;omega
theorem weight_ok {spec : CallF} (hs : ∀ args h, spec 90 args h = none) {h : H} {bw : Nat} {sl f a : S} {gap room : Int} {grows : Bool} {x : Itm} (kx : x.ok) (ok : Ok h)
  (hc : Cells h bw 130 [sl, .i .i64 gap, .i .i64 room, .b grows, f, a]) (hb : bw < h.next) :
  WF Try.prog spec 90 [.one (.p bw 0), .agg x.cells] h fun v h1 => v = .one (.i .i64 (x.weight grows)) ∧ Up (· < h.next) h h1 ∧ h1.next = h.next + 1 ∧ Ok h1 := by
 obtain ⟨hm1, hm2⟩ := kx.mul;refine WF_of Try.func90 rfl (hs _ _) (by rw [Try.ntmps90]; simp) (by rw [Try.ntmps90]; decide) ?_;rw [Try.ntmps90, Try.results90];simp only [Sl.setMany_cons, Sl.setMany_nil, Nat.zero_add];refine zS (zR ?_);refine WO_boxA (ee) ok Dc fun h1 n1 => ?_;have c2 := n1.up.cells hb hc;have c1 := n1.cells;unfold Itm.cells at c1
 repeat (first
   | (refine zV Gd0 Dc ?_)
   | (refine zV (zB Gs0 Gs0 (by first | exact zA | exact in_sub | exact in_mul)) Dc ?_; (try rw [zI Om Om]))
   | (refine zV (ex_quo Gs0 Gs0 Dc) Dc ?_; (try rw [zI Om Om]))
   | (refine zV (ex_min Gs0 Gs0) Dc ?_))
 refine zN (zS (zS (zR ?_)))
 repeat (first
   | (refine zV (Gd1 @c2.row) Dc ?_)
   | (refine zV (zB Gs0 Gs0 (by first | exact zA | exact in_sub | exact in_mul)) Dc ?_; (try rw [zI Om Om]))
   | (refine zV (ex_quo Gs0 Gs0 Dc) Dc ?_; (try rw [zI Om Om]))
   | (refine zV (ex_min Gs0 Gs0) Dc ?_))
 refine zN (zC (ee) ?_ ?_)
 ·rintro rfl;refine zS (zR ?_)
  repeat (first
   | (refine zV (Gd1 @c1.row) Dc ?_)
   | (refine zV (zB Gs0 Gs0 (by first | exact zA | exact in_sub | exact in_mul)) Dc ?_; (try rw [zI Om Om]))
   | (refine zV (ex_quo Gs0 Gs0 Dc) Dc ?_; (try rw [zI Om Om]))
   | (refine zV (ex_min Gs0 Gs0) Dc ?_))
  refine zN (W_ret ?_);exact ⟨.inr rfl, _, RbA, rfl, n1.up, n1.next, n1.ok⟩
 ·rintro rfl;refine W_skip (zS (zR ?_))
  repeat (first
   | (refine zV (Gd1 @c1.row) Dc ?_)
   | (refine zV (zB Gs0 Gs0 (by first | exact zA | exact in_sub | exact in_mul)) Dc ?_; (try rw [zI Om Om]))
   | (refine zV (ex_quo Gs0 Gs0 Dc) Dc ?_; (try rw [zI Om Om]))
   | (refine zV (ex_min Gs0 Gs0) Dc ?_))
  refine zN (W_ret ?_);refine ⟨.inr rfl, _, RbA, ?_, n1.up, n1.next, n1.ok⟩;have e : (x.sh * x.base + 64 + -1).tdiv 64 = (x.sh * x.base + 63) / 64 := by rw [Int.tdiv_eq_ediv_of_nonneg Om]; congr 1; omega
  rw [e, zI Om Om];rfl
end Go.Ai
end
namespace Go.Ai
open Go.Proofs
def idx (l : List Nat) : List S := l.map fun (k : Nat) => S.i .i64 (k : Int)
def bools (l : List Bool) : List S := l.map S.b
def nums (l : List Int) : List S := l.map (S.i .i64)
def opens : Nat → List Bool → List Nat
 | _, [] => []
 | k, b :: l => if b then opens (k + 1) l else k :: opens (k + 1) l
theorem opens_append (k : Nat) (l m : List Bool) : opens k (l ++ m) = opens k l ++ opens (k + l.length) m := by
 induction l generalizing k with
 | nil => simp [opens]
 | cons b l ih =>
  simp only [List.cons_append, opens, ih, List.length_cons];rw [show k + 1 + l.length = k + (l.length + 1) by omega];split <;> simp
theorem opens_length (k : Nat) (l : List Bool) : (opens k l).length ≤ l.length := by
 induction l generalizing k with
 | nil => simp [opens]
 | cons b l ih => simp only [opens]; split <;> simp [ih]; have := ih (k + 1); omega
theorem opens_take {l : List Bool} {k : Nat} {b : Bool} (hb : l[k]? = some b) : opens 0 (l.take (k + 1)) = opens 0 (l.take k) ++ (if b then [] else [k]) := by
 obtain ⟨hk, rfl⟩ := gEi.1 hb;rw [List.take_succ_eq_append_getElem hk, opens_append];simp [opens, Nat.min_eq_left (Nat.le_of_lt hk)]
theorem idx_append (l m : List Nat) : idx (l ++ m) = idx l ++ idx m := by simp [idx]
theorem Grown.same {h : H} {v : S} {n0 e s : Nat} {xs ys : List S} (k : Grown h v n0 e s xs) (q : xs = ys) : Grown h v n0 e s ys := q ▸ k
theorem open_ok {spec : CallF} (hs : ∀ args h, spec 85 args h = none) {h : H} {bw bf : Nat} {ex : Bool} {a0 a1 a2 a3 a4 : S} {fx : List Bool} (ok : Ok h)
  (hc : Cells h bw 130 [a0, a1, a2, a3, a4, .sl bf 0 fx.length fx.length 1 ex]) (hb : bw < h.next) (hf : Cells h bf 4 (bools fx)) (hbf : bf < h.next) (hn : fx.length ≤ 1000) :
  WF Try.prog spec 85 [.one (.p bw 0)] h fun v h1 => ∃ x, v = .one x ∧ Grown h1 x h.next 3 1 (idx (opens 0 fx)) ∧ Up (· < h.next) h h1 ∧ Ok h1 := by
 refine WF_of Try.func85 rfl (hs _ _) (by rw [Try.ntmps85]; simp) (by rw [Try.ntmps85]; decide) ?_;rw [Try.ntmps85, Try.results85];simp only [Sl.setMany_cons, Sl.setMany_nil, Nat.zero_add]
 (repeat refine zS ?_); refine zR ?_
 repeat (first
   | (refine zV Gd0 Dc ?_)
   | (refine zV (zB Gs0 Gs0 (by first | exact zA | exact zL)) Dc ?_; (try rw [zI Om Om]))
   | (refine zV (ex_not Gs0) Dc ?_)
   | (refine zV (ex_len el128 Gs0) Dc ?_))
 refine zN ?_; (repeat refine zS ?_);refine zR ?_
 repeat (first
   | (refine zV (Gd1 @hc.row) Dc ?_)
   | (refine zV (zB Gs0 Gs0 (by first | exact zA | exact zL)) Dc ?_; (try rw [zI Om Om]))
   | (refine zV (ex_not Gs0) Dc ?_)
   | (refine zV (ex_len el128 Gs0) Dc ?_))
 refine zN ?_; (repeat refine zS ?_);refine zK (W_rounds (fun j T h1 => ∃ k x, j = fx.length - k ∧ k ≤ fx.length ∧ T.get 2 = some (.one x) ∧ T.get 8 = some (.one (.sl bf 0 fx.length fx.length 1 ex)) ∧ T.get 9 = some (.one (.i .i64 (fx.length : Int))) ∧ T.get 10 = some (.one (.i .i64 (k : Int))) ∧ Grown h1 x h.next 3 1 (idx (opens 0 (fx.take k))) ∧ Up (· < h.next) h h1 ∧ Ok h1) ?_ fx.length _ _ ?_);rotate_left
 ·exact ⟨0, .sl0, rfl, Nat.zero_le _, by simp only [go_sem, ↓reduceIte, Nat.reduceEqDiff], by simp only [go_sem, ↓reduceIte, Nat.reduceEqDiff], by simp only [go_sem, ↓reduceIte, Nat.reduceEqDiff], ee, .nil, .refl _ _, ok⟩
 rintro j T h1 ⟨k, x, rfl, hk, t2, t8, t9, t10, gx, u1, o1⟩
 (repeat refine zS ?_); refine zR ?_
 repeat (first
   | (refine zV (Gd2 @t9 @t10) Dc ?_)
   | (refine zV (zB (Gs2 @t9 @t10) (Gs2 @t9 @t10) (by first | exact zA | exact zL)) Dc ?_; (try rw [zI Om Om]))
   | (refine zV (ex_not (Gs2 @t9 @t10)) Dc ?_)
   | (refine zV (ex_len el128 (Gs2 @t9 @t10)) Dc ?_))
 refine zN ?_; (repeat refine zS ?_);refine zC (ee) (fun hlt => W_skip ?_) (fun hge => W_exit ?_)
 ·have hlt : (k : Int) < (fx.length : Int) := by simpa using hlt
  have hlt : k < fx.length := by omega
  have hx : fx[k]? = some fx[k] := List.getElem?_eq_getElem hlt;have r1 : h1.row bf k 1 = some [.b fx[k]] := (u1.cells hbf hf).at1 (by simp [bools, hx])
  repeat refine zS ?_
  refine zK ?_
  (repeat refine zS ?_); refine zR ?_
  repeat (first
   | (refine zV (Gd4 @r1 @t8 @t9 @t10) Dc ?_)
   | (refine zV (zB (Gs3 @t8 @t9 @t10) (Gs3 @t8 @t9 @t10) (by first | exact zA | exact zL)) Dc ?_; (try rw [zI Om Om]))
   | (refine zV (ex_not (Gs3 @t8 @t9 @t10)) Dc ?_)
   | (refine zV (ex_len el128 (Gs3 @t8 @t9 @t10)) Dc ?_))
  refine zN ?_; (repeat refine zS ?_);refine zR ?_
  repeat (first
   | (refine zV Gd0 Dc ?_)
   | (refine zV (zB Gs0 Gs0 (by first | exact zA | exact zL)) Dc ?_; (try rw [zI Om Om]))
   | (refine zV (ex_not Gs0) Dc ?_)
   | (refine zV (ex_len el128 Gs0) Dc ?_))
  refine zN ?_; (repeat refine zS ?_);refine zC (ee) (fun hb1 => ?_) (fun hb1 => W_skip ?_)
  ·refine zR ?_
   repeat (first
   | (refine zV (Gd1 @t2) Dc ?_)
   | (refine zV (zB (Gs1 @t2) (Gs1 @t2) (by first | exact zA | exact zL)) Dc ?_; (try rw [zI Om Om]))
   | (refine zV (ex_not (Gs1 @t2)) Dc ?_)
   | (refine zV (ex_len el128 (Gs1 @t2)) Dc ?_))
   refine WO_bs1 el26 ⟨_, ze26⟩ (ee) o1 Dc fun h2 n2 => ?_;have g2 := gx.up n2.up fun q hq => (gx.lt hq).2
   have hnn := u1.next;refine WO_app (n0 := h.next) ap26_26 (Gt1 @t2) (ee) n2.cells rfl g2 n2.ok (by have := n2.next; omega) (m := (opens 0 (fx.take k)).length) (by simp [idx]) (by have := opens_length 0 (fx.take k); simp at this; omega) (by have := opens_length 0 (fx.take k); simp at this; omega) Dc fun x3 h3 g3 => ?_
   repeat (first
   | (refine zV Gd0 Dc ?_)
   | (refine zV (zB Gs0 Gs0 (by first | exact zA | exact zL)) Dc ?_; (try rw [zI Om Om]))
   | (refine zV (ex_not Gs0) Dc ?_)
   | (refine zV (ex_len el128 Gs0) Dc ?_))
   refine zN ?_; (repeat refine zS ?_);refine zR ?_
   repeat (first
   | (refine zV (Gd1 @t10) Dc ?_)
   | (refine zV (zB (Gs1 @t10) (Gs1 @t10) (by first | exact zA | exact zL)) Dc ?_; (try rw [zI Om Om]))
   | (refine zV (ex_not (Gs1 @t10)) Dc ?_)
   | (refine zV (ex_len el128 (Gs1 @t10)) Dc ?_))
   refine zN ?_;have e : opens 0 (fx.take (k + 1)) = opens 0 (fx.take k) ++ [k] := by rw [opens_take hx, if_neg (by simpa using hb1)]
   exact ⟨fx.length - (k + 1), by omega, k + 1, x3, rfl, hlt, gs, gt t8, gt t9, gs, g3.grown.same (by rw [e, idx_append]; rfl), (u1.trans (n2.up.mono fun b hb => by omega)).trans (g3.below g2 (by have := n2.next; omega)), g3.ok⟩
  ·refine zR ?_
   repeat (first
   | (refine zV (Gd1 @t10) Dc ?_)
   | (refine zV (zB (Gs1 @t10) (Gs1 @t10) (by first | exact zA | exact zL)) Dc ?_; (try rw [zI Om Om]))
   | (refine zV (ex_not (Gs1 @t10)) Dc ?_)
   | (refine zV (ex_len el128 (Gs1 @t10)) Dc ?_))
   refine zN ?_;have e : opens 0 (fx.take (k + 1)) = opens 0 (fx.take k) := by rw [opens_take hx, if_pos (by simpa using hb1)]; simp
   exact ⟨fx.length - (k + 1), by omega, k + 1, x, rfl, hlt, gt t2, gt t8, gt t9, gs, gx.same (by rw [e]), u1, o1⟩
 ·have hge : ¬ (k : Int) < (fx.length : Int) := by simpa using hge
  have hk : k = fx.length := by omega
  subst hk;refine ⟨fun _ => ?_, fun hne => absurd rfl hne⟩
  (repeat refine zS ?_); refine zR ?_
  repeat (first
   | (refine zV (Gd1 @t2) Dc ?_)
   | (refine zV (zB (Gs1 @t2) (Gs1 @t2) (by first | exact zA | exact zL)) Dc ?_; (try rw [zI Om Om]))
   | (refine zV (ex_not (Gs1 @t2)) Dc ?_)
   | (refine zV (ex_len el128 (Gs1 @t2)) Dc ?_))
  refine zN (W_ret ⟨.inr rfl, _, RbA, x, rfl, gx.same (by rw [List.take_length]), u1, o1⟩)
end Go.Ai
namespace Go.Ai
open Go.Proofs
structure Work (h : H) (bw bs bf bl ol cl : Nat) (ex : Bool) (L : List Itm) (gap room : Int) (grows : Bool) (ss : List Int) (fx : List Bool) : Prop where
 w : Cells h bw 130 [.sl bl ol L.length cl 5 ex, .i .i64 gap, .i .i64 room, .b grows, .sl bs 0 L.length L.length 1 false, .sl bf 0 L.length L.length 1 true]
 items : ∀ k x, L[k]? = some x → h.row bl (ol + k * 5) 5 = some x.cells
 sizes : Cells h bs 3 (nums ss)
 fixed : Cells h bf 4 (bools fx)
 ls : ss.length = L.length
 lf : fx.length = L.length
 lt : bw < h.next ∧ bs < h.next ∧ bf < h.next ∧ bl < h.next
 ne : bs ≠ bw ∧ bf ≠ bw ∧ bf ≠ bs ∧ bl ≠ bw ∧ bl ≠ bs ∧ bl ≠ bf
 may : h.may bw = true ∧ h.may bs = true ∧ h.may bf = true
theorem Work.up {p : Nat → Prop} {h h1 : H} {bw bs bf bl ol cl : Nat} {ex : Bool} {L : List Itm} {gap room : Int} {grows : Bool} {ss : List Int} {fx : List Bool} (k : Work h bw bs bf bl ol cl ex L gap room grows ss fx) (u : Up p h h1) (hw : p bw) (hs : p bs) (hf : p bf) (hl : p bl) : Work h1 bw bs bf bl ol cl ex L gap room grows ss fx :=
 ⟨u.cells hw k.w, fun i x hx => by rw [u.row hl]; exact k.items i x hx, u.cells hs k.sizes, u.cells hf k.fixed, k.ls, k.lf, ⟨Nat.lt_of_lt_of_le k.lt.1 u.next, Nat.lt_of_lt_of_le k.lt.2.1 u.next, Nat.lt_of_lt_of_le k.lt.2.2.1 u.next, Nat.lt_of_lt_of_le k.lt.2.2.2 u.next⟩, k.ne, by rw [u.may, u.may, u.may]; exact k.may⟩
theorem Work.upLt {h h1 : H} {bw bs bf bl ol cl : Nat} {ex : Bool} {L : List Itm} {gap room : Int} {grows : Bool} {ss : List Int} {fx : List Bool} (k : Work h bw bs bf bl ol cl ex L gap room grows ss fx) (u : Up (· < h.next) h h1) : Work h1 bw bs bf bl ol cl ex L gap room grows ss fx :=
 k.up u k.lt.1 k.lt.2.1 k.lt.2.2.1 k.lt.2.2.2
structure LineOk (L : List Itm) (gap room : Int) : Prop where
 ok : ∀ x ∈ L, x.ok
 len : L.length ≤ 64
 gap : 0 ≤ gap ∧ gap ≤ 1099511627776
 room : 0 ≤ room ∧ room ≤ 1099511627776
def taken : List Itm → List Int → List Bool → Int
 | x :: L, s :: ss, f :: fx => (if f then s else x.base) + taken L ss fx
 | _, _, _ => 0
theorem taken_append : ∀ {L : List Itm} {ss : List Int} {fx : List Bool} {M : List Itm} {ts : List Int} {gx : List Bool}, ss.length = L.length → fx.length = L.length → taken (L ++ M) (ss ++ ts) (fx ++ gx) = taken L ss fx + taken M ts gx
 | [], [], [], M, ts, gx, _, _ => by simp [taken]
 | x :: L, s :: ss, f :: fx, M, ts, gx, h1, h2 => by
  simp only [List.length_cons, Nat.add_right_cancel_iff] at h1 h2;simp only [List.cons_append, taken, taken_append h1 h2]; omega
theorem taken_take {L : List Itm} {ss : List Int} {fx : List Bool} (h1 : ss.length = L.length) (h2 : fx.length = L.length) {k : Nat} {x : Itm} {s : Int} {f : Bool} (hx : L[k]? = some x) (hs : ss[k]? = some s) (hf : fx[k]? = some f) :
  taken (L.take (k + 1)) (ss.take (k + 1)) (fx.take (k + 1)) = taken (L.take k) (ss.take k) (fx.take k) + (if f then s else x.base) := by
 obtain ⟨k1, rfl⟩ := gEi.1 hx;obtain ⟨k2, rfl⟩ := gEi.1 hs;obtain ⟨k3, rfl⟩ := gEi.1 hf;rw [List.take_succ_eq_append_getElem k1, List.take_succ_eq_append_getElem k2, List.take_succ_eq_append_getElem k3, taken_append (by simp; omega) (by simp; omega)];simp [taken]
theorem taken_bound : ∀ {L : List Itm} {ss : List Int} {fx : List Bool}, (∀ x ∈ L, x.ok) → (∀ s ∈ ss, 0 ≤ s ∧ s ≤ 1099511627776) → 0 ≤ taken L ss fx ∧ taken L ss fx ≤ L.length * 1099511627776
 | [], _, _, _, _ => by simp [taken]
 | x :: L, [], _, _, _ => by simp [taken]; omega
 | x :: L, s :: ss, [], _, _ => by simp [taken]; omega
 | x :: L, s :: ss, f :: fx, h1, h2 => by
  have := taken_bound (L := L) (ss := ss) (fx := fx) (fun y hy => h1 y (by simp [hy])) (fun y hy => h2 y (by simp [hy]));have hx := (h1 x (by simp)).base;have hs := h2 s (by simp);simp only [taken, List.length_cons];split <;> omega
def freeN (L : List Itm) (gap room : Int) (grows : Bool) (ss : List Int) (fx : List Bool) : Int :=
 if grows then max (room - gap * max 0 ((L.length : Int) - 1) - taken L ss fx) 0 else max (-(room - gap * max 0 ((L.length : Int) - 1) - taken L ss fx)) 0
theorem free_ok {spec : CallF} (hs : ∀ args h, spec 93 args h = none) {h : H} {bw bs bf bl ol cl : Nat} {ex : Bool} {L : List Itm} {gap room : Int} {grows : Bool} {ss : List Int} {fx : List Bool} (ok : Ok h) (lok : LineOk L gap room)
  (k : Work h bw bs bf bl ol cl ex L gap room grows ss fx) (sok : ∀ s ∈ ss, 0 ≤ s ∧ s ≤ 1099511627776) :
  WF Try.prog spec 93 [.one (.p bw 0)] h fun v h1 => v = .one (.i .i64 (freeN L gap room grows ss fx)) ∧ Up (· < h.next) h h1 ∧ Ok h1 := by
 refine WF_of Try.func93 rfl (hs _ _) (by rw [Try.ntmps93]; simp) (by rw [Try.ntmps93]; decide) ?_;rw [Try.ntmps93, Try.results93];simp only [Sl.setMany_cons, Sl.setMany_nil, Nat.zero_add];have hc := k.w;have hlen := lok.len
 have hgm : ∀ m : Int, 0 ≤ m → m ≤ 64 → 0 ≤ gap * m ∧ gap * m ≤ 70368744177664 := fun m h0 h1 => by
  refine ⟨Int.mul_nonneg lok.gap.1 h0, ?_⟩;have q1 : gap * m ≤ 1099511627776 * m := Int.mul_le_mul_of_nonneg_right lok.gap.2 h0;omega
 have hg1 := hgm (max 0 ((L.length : Int) - 1)) Om Om;have hr := lok.room
 (repeat refine zS ?_); refine zR ?_
 repeat (first
   | (refine zV Gd0 Dc ?_)
   | (refine zV (zB Gs0 Gs0 (by first | exact zA | exact in_sub | exact in_mul | exact zL)) Dc ?_; (try rw [zI Om Om]))
   | (refine zV (ex_max Gs0 Gs0) Dc ?_)
   | (refine zV (ex_neg Gs0) Dc ?_; (try rw [zI Om Om]))
   | (refine zV (ex_len el107 Gs0) Dc ?_))
 refine zN ?_; (repeat refine zS ?_);refine W_drawn dr93_1 (by kernel_rfl) ok.floor ?_;unfold dr93_1
 repeat (first
   | (refine WI_val rfl zF rfl (Gd1 @hc.row) Dc ?_)
   | (refine WI_ld rfl zF Gs0 (Gd1 @hc.row) OffA Dc ?_)
   | (refine WI_val rfl zF rfl (zB Gs0 Gs0 (by first | exact zA | exact in_sub | exact in_mul | exact zL)) Dc ?_; (try rw [zI Om Om]))
   | (refine WI_val rfl zF rfl (ex_max Gs0 Gs0) Dc ?_)
   | (refine WI_val rfl zF rfl (ex_neg Gs0) Dc ?_; (try rw [zI Om Om]))
   | (refine WI_val rfl zF rfl (ex_len el107 Gs0) Dc ?_))
 refine WI_nil ?_; (repeat refine zS ?_);refine zR ?_
 repeat (first
   | (refine zV (Gd1 @hc.row) Dc ?_)
   | (refine zV (zB Gs0 Gs0 (by first | exact zA | exact in_sub | exact in_mul | exact zL)) Dc ?_; (try rw [zI Om Om]))
   | (refine zV (ex_max Gs0 Gs0) Dc ?_)
   | (refine zV (ex_neg Gs0) Dc ?_; (try rw [zI Om Om]))
   | (refine zV (ex_len el107 Gs0) Dc ?_))
 refine zN ?_; (repeat refine zS ?_);refine zK (W_rounds (fun j T h1 => ∃ k, j = L.length - k ∧ k ≤ L.length ∧ T.get 0 = some (.one (.p bw 0)) ∧ T.get 3 = some (.one (.i .i64 (room - gap * max 0 ((L.length : Int) - 1) - taken (L.take k) (ss.take k) (fx.take k)))) ∧ T.get 26 = some (.one (.sl bl ol L.length cl 5 ex)) ∧ T.get 27 = some (.one (.i .i64 (L.length : Int))) ∧ T.get 28 = some (.one (.i .i64 (k : Int))) ∧ Up (· < h.next) h h1 ∧ Ok h1) ?_ L.length _ _ ?_);rotate_left
 ·exact ⟨0, rfl, Nat.zero_le _, gs, by simp only [List.take_zero, taken]; (simp only [go_sem, ↓reduceIte, Nat.reduceEqDiff, Int.sub_zero] <;> first | rfl | simp), gs, gs, gs, .refl _ _, ok⟩
 rintro j T h1 ⟨i, rfl, hi, t0, t3, t26, t27, t28, u1, o1⟩;have k1 := k.upLt u1;have hb1 := taken_bound (L := L.take i) (ss := ss.take i) (fx := fx.take i) (fun y hy => lok.ok y (List.mem_of_mem_take hy)) (fun y hy => sok y (List.mem_of_mem_take hy));have hb2 : (L.take i).length ≤ 64 := by simp; omega
 generalize hN : room - gap * max 0 ((L.length : Int) - 1) = N at t3;have hN' : -70368744177664 ≤ N ∧ N ≤ 1099511627776 := by omega
 (repeat refine zS ?_); refine zR ?_
 repeat (first
   | (refine zV (Gd2 @t27 @t28) Dc ?_)
   | (refine zV (zB (Gs2 @t27 @t28) (Gs2 @t27 @t28) (by first | exact zA | exact in_sub | exact in_mul | exact zL)) Dc ?_; (try rw [zI Om Om]))
   | (refine zV (ex_max (Gs2 @t27 @t28) (Gs2 @t27 @t28)) Dc ?_)
   | (refine zV (ex_neg (Gs2 @t27 @t28)) Dc ?_; (try rw [zI Om Om]))
   | (refine zV (ex_len el107 (Gs2 @t27 @t28)) Dc ?_))
 refine zN ?_; (repeat refine zS ?_);refine zC (ee) (fun hlt => W_skip ?_) (fun hge => W_exit ?_)
 ·have hlt : (i : Int) < (L.length : Int) := by simpa using hlt
  have hlt : i < L.length := by omega
  obtain ⟨x, hx⟩ : ∃ x, L[i]? = some x := ⟨_, List.getElem?_eq_getElem hlt⟩;obtain ⟨s, hsx⟩ : ∃ s, ss[i]? = some s := ⟨_, List.getElem?_eq_getElem (by rw [k.ls]; exact hlt)⟩;obtain ⟨f, hfx⟩ : ∃ f, fx[i]? = some f := ⟨_, List.getElem?_eq_getElem (by rw [k.lf]; exact hlt)⟩;have hxo := (lok.ok x (List.mem_of_getElem? hx)).base;have hso := sok s (List.mem_of_getElem? hsx);have r1 := k1.items i x hx
  repeat refine zS ?_
  refine zK ?_
  (repeat refine zS ?_); refine zR ?_
  repeat (first
   | (refine zV (Gd4 @r1 @t26 @t27 @t28) Dc ?_)
   | (refine zV (zB (Gs3 @t26 @t27 @t28) (Gs3 @t26 @t27 @t28) (by first | exact zA | exact in_sub | exact in_mul | exact zL)) Dc ?_; (try rw [zI Om Om]))
   | (refine zV (ex_max (Gs3 @t26 @t27 @t28) (Gs3 @t26 @t27 @t28)) Dc ?_)
   | (refine zV (ex_neg (Gs3 @t26 @t27 @t28)) Dc ?_; (try rw [zI Om Om]))
   | (refine zV (ex_len el107 (Gs3 @t26 @t27 @t28)) Dc ?_))
  refine WO_alloc zb109 rfl o1 Dc fun h2 n2 => ?_
  repeat (first
   | (refine zV (Gd1 @t28) Dc ?_)
   | (refine zV (zB (Gs1 @t28) (Gs1 @t28) (by first | exact zA | exact in_sub | exact in_mul | exact zL)) Dc ?_; (try rw [zI Om Om]))
   | (refine zV (ex_max (Gs1 @t28) (Gs1 @t28)) Dc ?_)
   | (refine zV (ex_neg (Gs1 @t28)) Dc ?_; (try rw [zI Om Om]))
   | (refine zV (ex_len el107 (Gs1 @t28)) Dc ?_))
  refine WO_storeA (ee) (ee) sz109 rfl (by simp [Itm.cells]) n2.cells n2.may (by simp [Itm.cells, V.cells]) fun h3 p3 => ?_;have k2 := k1.upLt n2.up;have k3 := k2.up p3.up (by have := k1.lt.1; simp; omega) (by have := k1.lt.2.1; simp; omega) (by have := k1.lt.2.2.1; simp; omega) (by have := k1.lt.2.2.2; simp; omega);have c3 := p3.cells;simp only [Itm.cells, V.cells, List.take_zero, List.nil_append, List.length_cons, List.length_nil, Nat.reduceAdd, Nat.zero_add, List.drop_succ_cons, List.drop_zero, List.append_nil] at c3;have cw := k3.w;have r3 : h3.row bf i 1 = some [.b f] := k3.fixed.at1 (by simp [bools, hfx]);have r4 : h3.row bs i 1 = some [.i .i64 s] := k3.sizes.at1 (by simp [nums, hsx]);have u3 : Up (· < h.next) h h3 := (u1.trans (n2.up.mono fun b hb => by have := u1.next; omega)).trans (p3.up.mono fun b hb => by have := u1.next; omega);have o3 := p3.ok n2.ok;refine zN ?_; (repeat refine zS ?_);refine zR ?_
  repeat (first
   | (refine zV (Gd4 @cw.row @r3 @t0 @t28) Dc ?_)
   | (refine zV (zB (Gs2 @t0 @t28) (Gs2 @t0 @t28) (by first | exact zA | exact in_sub | exact in_mul | exact zL)) Dc ?_; (try rw [zI Om Om]))
   | (refine zV (ex_max (Gs2 @t0 @t28) (Gs2 @t0 @t28)) Dc ?_)
   | (refine zV (ex_neg (Gs2 @t0 @t28)) Dc ?_; (try rw [zI Om Om]))
   | (refine zV (ex_len el107 (Gs2 @t0 @t28)) Dc ?_))
  have hT := taken_take k.ls k.lf hx hsx hfx;have hL : L.length - (i + 1) < L.length - i := by omega
  have hLe : (L.take i).length = i := by simp; omega
  rw [hLe] at hb1;generalize hA : taken (L.take i) (ss.take i) (fx.take i) = A at *;generalize hB : taken (L.take (i + 1)) (ss.take (i + 1)) (fx.take (i + 1)) = B at *;refine zN ?_; (repeat refine zS ?_);refine zC (ee) (fun hf => ?_) (fun hf => ?_)
  ·subst hf;refine zR ?_
   repeat (first
   | (refine zV (Gd5 @cw.row @r4 @t0 @t3 @t28) Dc ?_)
   | (refine zV (zB (Gs3 @t0 @t3 @t28) (Gs3 @t0 @t3 @t28) (by first | exact zA | exact in_sub | exact in_mul | exact zL)) Dc ?_; (try rw [zI Om Om]))
   | (refine zV (ex_max (Gs3 @t0 @t3 @t28) (Gs3 @t0 @t3 @t28)) Dc ?_)
   | (refine zV (ex_neg (Gs3 @t0 @t3 @t28)) Dc ?_; (try rw [zI Om Om]))
   | (refine zV (ex_len el107 (Gs3 @t0 @t3 @t28)) Dc ?_))
   refine zN ?_; (repeat refine zS ?_);refine zR ?_
   repeat (first
   | (refine zV (Gd1 @t28) Dc ?_)
   | (refine zV (zB (Gs1 @t28) (Gs1 @t28) (by first | exact zA | exact in_sub | exact in_mul | exact zL)) Dc ?_; (try rw [zI Om Om]))
   | (refine zV (ex_max (Gs1 @t28) (Gs1 @t28)) Dc ?_)
   | (refine zV (ex_neg (Gs1 @t28)) Dc ?_; (try rw [zI Om Om]))
   | (refine zV (ex_len el107 (Gs1 @t28)) Dc ?_))
   refine zN ⟨L.length - (i + 1), hL, i + 1, rfl, hlt, gt t0, ?_, gt t26, gt t27, gs, u3, o3⟩;simp only [go_sem, ↓reduceIte, Nat.reduceEqDiff];rw [hB, hT, if_pos rfl]
   congr 3; omega
  ·subst hf;refine zR ?_
   repeat (first
   | (refine zV (Gd4 @c3.row @t0 @t3 @t28) Dc ?_)
   | (refine zV (zB (Gs3 @t0 @t3 @t28) (Gs3 @t0 @t3 @t28) (by first | exact zA | exact in_sub | exact in_mul | exact zL)) Dc ?_; (try rw [zI Om Om]))
   | (refine zV (ex_max (Gs3 @t0 @t3 @t28) (Gs3 @t0 @t3 @t28)) Dc ?_)
   | (refine zV (ex_neg (Gs3 @t0 @t3 @t28)) Dc ?_; (try rw [zI Om Om]))
   | (refine zV (ex_len el107 (Gs3 @t0 @t3 @t28)) Dc ?_))
   refine zN ?_; (repeat refine zS ?_);refine zR ?_
   repeat (first
   | (refine zV (Gd1 @t28) Dc ?_)
   | (refine zV (zB (Gs1 @t28) (Gs1 @t28) (by first | exact zA | exact in_sub | exact in_mul | exact zL)) Dc ?_; (try rw [zI Om Om]))
   | (refine zV (ex_max (Gs1 @t28) (Gs1 @t28)) Dc ?_)
   | (refine zV (ex_neg (Gs1 @t28)) Dc ?_; (try rw [zI Om Om]))
   | (refine zV (ex_len el107 (Gs1 @t28)) Dc ?_))
   refine zN ⟨L.length - (i + 1), hL, i + 1, rfl, hlt, gt t0, ?_, gt t26, gt t27, gs, u3, o3⟩;simp only [go_sem, ↓reduceIte, Nat.reduceEqDiff];rw [hB, hT, if_neg (by simp)]
   congr 3; omega
 ·have hge : ¬ (i : Int) < (L.length : Int) := by simpa using hge
  have hi : i = L.length := by omega
  subst hi;rw [List.take_length, List.take_of_length_le (by rw [k.ls]; exact Nat.le_refl _), List.take_of_length_le (by rw [k.lf]; exact Nat.le_refl _)] at t3 hb1;refine ⟨fun _ => ?_, fun hne => absurd rfl hne⟩;have cw := k1.w;have hfr : freeN L gap room grows ss fx = if grows then max (N - taken L ss fx) 0 else max (-(N - taken L ss fx)) 0 := by unfold freeN; rw [hN]
  (repeat refine zS ?_); refine zR ?_
  repeat (first
   | (refine zV (Gd2 @cw.row @t0) Dc ?_)
   | (refine zV (zB (Gs1 @t0) (Gs1 @t0) (by first | exact zA | exact in_sub | exact in_mul | exact zL)) Dc ?_; (try rw [zI Om Om]))
   | (refine zV (ex_max (Gs1 @t0) (Gs1 @t0)) Dc ?_)
   | (refine zV (ex_neg (Gs1 @t0)) Dc ?_; (try rw [zI Om Om]))
   | (refine zV (ex_len el107 (Gs1 @t0)) Dc ?_))
  refine zN ?_; (repeat refine zS ?_);refine zC (ee) (fun hg => ?_) (fun hg => ?_)
  ·subst hg
   repeat refine zS ?_
   (repeat refine zS ?_); refine zR ?_
   repeat (first
   | (refine zV (Gd1 @t3) Dc ?_)
   | (refine zV (zB (Gs1 @t3) (Gs1 @t3) (by first | exact zA | exact in_sub | exact in_mul | exact zL)) Dc ?_; (try rw [zI Om Om]))
   | (refine zV (ex_max (Gs1 @t3) (Gs1 @t3)) Dc ?_)
   | (refine zV (ex_neg (Gs1 @t3)) Dc ?_; (try rw [zI Om Om]))
   | (refine zV (ex_len el107 (Gs1 @t3)) Dc ?_))
   refine zN (W_ret ⟨.inr rfl, _, RbA, ?_, u1, o1⟩);rw [hfr]; rfl
  ·subst hg;refine W_skip ?_
   repeat refine zS ?_
   (repeat refine zS ?_); refine zR ?_
   repeat (first
   | (refine zV (Gd1 @t3) Dc ?_)
   | (refine zV (zB (Gs1 @t3) (Gs1 @t3) (by first | exact zA | exact in_sub | exact in_mul | exact zL)) Dc ?_; (try rw [zI Om Om]))
   | (refine zV (ex_max (Gs1 @t3) (Gs1 @t3)) Dc ?_)
   | (refine zV (ex_neg (Gs1 @t3)) Dc ?_; (try rw [zI Om Om]))
   | (refine zV (ex_len el107 (Gs1 @t3)) Dc ?_))
   refine zN (W_ret ⟨.inr rfl, _, RbA, ?_, u1, o1⟩);rw [hfr]; rfl
end Go.Ai
