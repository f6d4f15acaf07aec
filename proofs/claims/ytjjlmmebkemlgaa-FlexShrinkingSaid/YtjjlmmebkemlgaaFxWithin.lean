/-
arraslaw0.Within: a number from 0 below n.
-/
import Derived.Test.YtjjlmmebkemlgaaFxAsks
set_option linter.unusedVariables false
set_option linter.unusedSimpArgs false
namespace Go.Ai
open Go.Proofs

section
variable {P : Program} {T : Sl} {h : H} {d : Option Tmp} {ty : TypeId} {ps : String} {af : Array Edge} {g : Option (Nat × Bool)}
theorem ex_remU {t t' : TypeId} {x y : Operand} {a c : Int} (hx : ev T x = some (.one (.i .u64 a))) (hy : ev T y = some (.one (.i .u64 c))) (hc : c ≠ 0) : execO P T h ⟨d, .binOp .rem t x y t', ty, ps, af, g⟩ = some (.val (.one (.i .u64 (a.tmod c))) h) := by
  refine ex_pure (v := .int .u64 (a.tmod c)) ?_ ?_ ?_ rfl
  · show orPure P T h _ (doBin P h .rem t (ev T x) (ev T y)) = _
    rw [hx, hy]; rfl
  · show allConc T [x, y] = true
    simp only [allConc, evc, hx, hy]; rfl
  · have hp : ∀ ρ : Operand → Value, ρ x = .int .u64 a → ρ y = .int .u64 c → prun P (execOp ρ ⟨d, .binOp .rem t x y t', ty, ps, af, g⟩) = some (.value (.int .u64 (a.tmod c))) := by
      intro ρ h1 h2
      simp [execOp, h1, h2, binOp, eqGuard, Op.intDiv, hc, Bind.bind, Pure.pure, Sem.bind, prun]
    exact hp _ (by simp only [evc, hx]; rfl) (by simp only [evc, hy]; rfl)
end
theorem wrapU (x : Int) : 0 ≤ IntKind.u64.wrap x := by
  simp only [IntKind.wrap, IntKind.bits, IntKind.signed]
  simp
  omega
theorem wrapU_id {x : Int} (h0 : 0 ≤ x) (h1 : x < 9223372036854775808) : IntKind.u64.wrap x = x := by
  simp only [IntKind.wrap, IntKind.bits, IntKind.signed]
  simp
  omega
set_option maxHeartbeats 0 in
theorem lawWithin_fn {spec : CallF} (hs : ∀ args h, spec 21 args h = none) {h : H} {x n : Int} (hn : 0 < n ∧ n < 9223372036854775808) :
    WF Try.prog spec 21 [.one (.i .i64 x), .one (.i .i64 n)] h fun v h1 => (∃ m, v = .one (.i .i64 m) ∧ 0 ≤ m ∧ m < n) ∧ h1 = h := by
  refine WF_of Try.func21 rfl (hs _ _) (by rw [Try.ntmps21]; simp) (by rw [Try.ntmps21]; decide) ?_
  rw [Try.ntmps21, Try.results21]
  simp only [Sl.setMany_cons, Sl.setMany_nil, Nat.zero_add, Nat.reduceAdd]
  (repeat refine W_seq ?_); refine W_region ?_
  (refine VO ?_)
  refine WO_nil ?_; (repeat refine W_seq ?_)
  refine W_region ?_
  refine WO_val (by simp only [go_sem, ↓reduceIte, Nat.reduceEqDiff]; rfl) (by decide) ?_
  refine WO_val (ex_toU Try.underlying3 Try.underlying58 (by simp only [go_sem, ↓reduceIte, Nat.reduceEqDiff]; rfl)) (by decide) ?_
  refine WO_val (by simp only [go_sem, ↓reduceIte, Nat.reduceEqDiff]; rfl) (by decide) ?_
  refine WO_val (ex_toU Try.underlying3 Try.underlying58 (by simp only [go_sem, ↓reduceIte, Nat.reduceEqDiff]; rfl)) (by decide) ?_
  rw [wrapU_id (by omega) hn.2]
  refine WO_val (ex_remU (by simp only [go_sem, ↓reduceIte, Nat.reduceEqDiff]; rfl) (by simp only [go_sem, ↓reduceIte, Nat.reduceEqDiff]; rfl) (by omega)) (by decide) ?_
  have h0 := wrapU x
  have h1 : (IntKind.u64.wrap x).tmod n = IntKind.u64.wrap x % n := Int.tmod_eq_emod_of_nonneg h0
  rw [h1]
  have h2 := Int.emod_nonneg (IntKind.u64.wrap x) (show n ≠ 0 by omega)
  have h3 := Int.emod_lt_of_pos (IntKind.u64.wrap x) hn.1
  generalize IntKind.u64.wrap x % n = m at *
  refine WO_val (ex_toI Try.underlying58 Try.underlying3 (by simp only [go_sem, ↓reduceIte, Nat.reduceEqDiff]; rfl)) (by decide) ?_
  rw [wrap_id (by omega) (by omega)]
  refine WO_val (by simp only [go_sem, ↓reduceIte, Nat.reduceEqDiff]; rfl) (by decide) ?_
  exact WO_nil (W_ret ⟨.inr rfl, _, by (simp only [resultB, resB, parts, V.part, Sl.get_set', ↓reduceIte, Nat.reduceEqDiff] <;> rfl), ⟨m, rfl, h2, h3⟩, rfl⟩)
end Go.Ai
