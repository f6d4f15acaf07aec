/-
LayoutJustified, run with its numbers unknown.
-/
import Derived.Test.YthacbaagffpkoaaAiTwo
import Derived.Test.YthacbaagffpkoaaRowTwo
set_option linter.unusedVariables false
set_option linter.unusedSimpArgs false
namespace Go.Proofs.Ythacbaagffpkoaa.RunLayoutJustified
open Go.RowKit Go.Ai Go.Proofs.Ythacbaagffpkoaa.RowTwo
theorem orders : Try.prog.follows .mixedOrders = true := by kernel_rfl
theorem names : namesB Try.prog = true := by kernel_rfl
theorem body : HasBody Try.prog 18 := hasBodyB (by kernel_rfl)
theorem within100 : withinB Try.prog 18 100 := ⟨by kernel_rfl, by kernel_rfl⟩
set_option maxRecDepth 100000 in
theorem run_a : isTrue (runK Try.prog 200 10 [.agg [.anysl, .anysl, raw 0, raw 2]] (H.of { call := withinK 18 [(2, 100, uk 3 0 99)], facts := [], mx := [] })) = true := by kernel_rfl
theorem calls (w : World) (v : Value) (l0 l1 : List Int) (g wd : Int) (h : IsRow w v l0 l1 g wd) : Calls Try.prog 10 #[v] w fun e w' => e = .returned (.bool true) ∧ Below w.heap.size w w' := by
  obtain ⟨A0, c0, A1, c1, rfl, _, _⟩ := h.ex
  have hg := h.g
  have hwd := h.wd
  have hn := h.n0
  obtain ⟨m2, p2, q2, r2⟩ := within_of orders names (by omega) within100 wd h.wd
  have e0 : env4 g 0 wd m2 l0.length 0 = g := rfl
  refine two_calls (env := (env4 g 0 wd m2 l0.length)) (tab := [(2, 100, uk 3 0 99)]) (facts := []) (mx := []) orders names 200 body anysl_rel anysl_rel hg hwd ?_ ?_ ?_ (fun _ h => by cases h) run_a w
  · intro v n e he
    simp only [List.mem_cons, List.not_mem_nil, or_false, Prod.mk.injEq] at he
    obtain ⟨rfl, rfl, rfl⟩ := he
    · have e : (uk 3 0 99).eval (env4 g 0 wd m2 l0.length) = m2 := uk_eval ..
      rw [e]
      exact ⟨uk_ok (by simp only [env4]; omega), by omega, r2⟩
  · intro v n e he
    simp only [List.mem_cons, List.not_mem_nil, or_false, Prod.mk.injEq] at he
    obtain ⟨rfl, rfl, rfl⟩ := he
    · simp only [env4]; omega
  · intro f hf; cases hf
end Go.Proofs.Ythacbaagffpkoaa.RunLayoutJustified
