/-
A law of one struct of two slices and two numbers, each of the numbers brought within bounds: run with both unknown, it answers true.
-/
import Derived.Test.YthacbaagffpkoaaAiWithinK
set_option linter.unusedVariables false
namespace Go.Ai
open Go.RowKit
theorem two_calls {P : Program} (hm : P.follows .mixedOrders = true) (hN : namesB P = true) {fw f : Nat} (n : Nat) (hb : HasBody P fw) {env : Nat → Int} {tab : List (Nat × Nat × Lin)} {facts : List Lin} {mx : List (Lin × Lin × Lin)} {A0 A1 : Option Addr} {l0 c0 l1 c1 : Nat} {x0 x1 : S}
    (h0 : SR (Inj.none env) x0 (.slice A0 l0 c0)) (h1 : SR (Inj.none env) x1 (.slice A1 l1 c1)) (hg : -9223372036854775808 ≤ env 0 ∧ env 0 ≤ 9223372036854775807) (hw : -9223372036854775808 ≤ env 2 ∧ env 2 ≤ 9223372036854775807)
    (ht : ∀ v n e, (v, n, e) ∈ tab → e.ok env ∧ (0 ≤ e.eval env ∧ e.eval env ≤ 9223372036854775807) ∧ IsWithin P fw (env v) n (e.eval env)) (hr : ∀ v n e, (v, n, e) ∈ tab → -9223372036854775808 ≤ env v ∧ env v ≤ 9223372036854775807)
    (hf : ∀ f ∈ facts, f.ok env ∧ 0 ≤ f.eval env) (hm' : ∀ p ∈ mx, p.2.2.ok env ∧ p.2.2.eval env = max (p.1.eval env) (p.2.1.eval env))
    (hx : isTrue (runK P n f [.agg [x0, x1, raw 0, raw 2]] (H.of { call := withinK fw tab, facts := facts, mx := mx })) = true) (w : World) :
    Calls P f #[.agg #[.slice A0 l0 c0, .slice A1 l1 c1, .int .i64 (env 0), .int .i64 (env 2)]] w fun e w' => e = .returned (.bool true) ∧ Below w.heap.size w w' := by
  rw [runK_eq] at hx
  have ha : All2 (VR (Inj.none env)) [V.agg [x0, x1, raw 0, raw 2]] [Value.agg #[.slice A0 l0 c0, .slice A1 l1 c1, .int .i64 (env 0), .int .i64 (env 2)]] :=
    .cons ⟨_, rfl, .cons h0 (.cons h1 (.cons (raw_rel hg rfl) (.cons (raw_rel hw rfl) .nil)))⟩ .nil
  refine run_true' hm hN n (within_ok hb (fun v n e he => ?_) hf hm') ha hx w
  obtain ⟨q1, q2, q3⟩ := ht v n e he
  have := hr v n e he
  exact ⟨q1, q2, by rw [wrap_id this.1 (by omega)]; exact q3⟩
/-- Two unknowns and two numbers. -/
def env4 (a b c d e : Int) : Nat → Int := fun v => match v with
  | 0 => a
  | 1 => b
  | 2 => c
  | 3 => d
  | 4 => e
  | _ => 0
def uk (v : Nat) (lo hi : Int) : Lin := { c := 0, ts := [{ k := 1, v := v, lo := lo, hi := hi }] }
theorem uk_ok {env : Nat → Int} {v : Nat} {lo hi : Int} (h : lo ≤ env v ∧ env v ≤ hi) : (uk v lo hi).ok env := by
  intro t ht
  simp only [uk, List.mem_cons, List.not_mem_nil, or_false] at ht
  subst ht; exact h
theorem uk_eval (env : Nat → Int) (v : Nat) (lo hi : Int) : (uk v lo hi).eval env = env v := by simp [uk, Lin.eval, evalTs]
/-- k times an unknown, and c. -/
def ukc (k : Int) (v : Nat) (lo hi c : Int) : Lin := { c := c, ts := [{ k := k, v := v, lo := lo, hi := hi }] }
theorem ukc_ok {env : Nat → Int} {k : Int} {v : Nat} {lo hi c : Int} (h : lo ≤ env v ∧ env v ≤ hi) : (ukc k v lo hi c).ok env := by
  intro t ht
  simp only [ukc, List.mem_cons, List.not_mem_nil, or_false] at ht
  subst ht; exact h
theorem ukc_eval (env : Nat → Int) (k : Int) (v : Nat) (lo hi c : Int) : (ukc k v lo hi c).eval env = k * env v + c := by simp [ukc, Lin.eval, evalTs]; omega
theorem anysl_rel {ι : Inj} {A : Option Addr} {l c : Nat} : SR ι .anysl (.slice A l c) := ⟨A, l, c, rfl⟩
theorem lsl_rel {ι : Inj} {A : Option Addr} {l c v : Nat} (h : ι.env v = l) (hl : l ≤ 9223372036854775807) : SR ι (.lsl (uk v 0 9223372036854775807)) (.slice A l c) :=
  ⟨uk_ok (by rw [h]; omega), A, c, l, rfl, by rw [uk_eval, h]⟩
end Go.Ai
