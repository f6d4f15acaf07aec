/-
LayoutBounds, run with its numbers unknown.
-/
import Derived.Test.YthacbaagffpkoaaAiTwo
import Derived.Test.YthacbaagffpkoaaRowTwo
set_option linter.unusedVariables false
set_option linter.unusedSimpArgs false
namespace Go.Proofs.Ythacbaagffpkoaa.RunLayoutBounds
open Go.RowKit Go.Ai Go.Proofs.Ythacbaagffpkoaa.RowTwo
theorem orders : Try.prog.follows .mixedOrders = true := by kernel_rfl
theorem names : namesB Try.prog = true := by kernel_rfl
theorem body : HasBody Try.prog 18 := hasBodyB (by kernel_rfl)
theorem within500 : withinB Try.prog 18 500 := ⟨by kernel_rfl, by kernel_rfl⟩
set_option maxRecDepth 100000 in
theorem run_a : isTrue (runK Try.prog 200 7 [.agg [.anysl, .anysl, raw 0, raw 2]] (H.of { call := withinK 18 [(0, 500, uk 1 0 250), (2, 500, uk 3 0 250)], facts := [(uk 3 0 250).sub (uk 1 0 250)], mx := [] })) = true := by kernel_rfl
set_option maxRecDepth 100000 in
theorem run_b : isTrue (runK Try.prog 200 7 [.agg [.anysl, .anysl, raw 0, raw 2]] (H.of { call := withinK 18 [(0, 500, uk 1 0 250), (2, 500, uk 3 251 499)], facts := [], mx := [] })) = true := by kernel_rfl
set_option maxRecDepth 100000 in
theorem run_c : isTrue (runK Try.prog 200 7 [.agg [.anysl, .anysl, raw 0, raw 2]] (H.of { call := withinK 18 [(0, 500, uk 1 251 499), (2, 500, uk 3 251 499)], facts := [(uk 3 251 499).sub (uk 1 251 499)], mx := [] })) = true := by kernel_rfl
set_option maxRecDepth 100000 in
theorem run_d : isTrue (runK Try.prog 200 7 [.agg [.anysl, .anysl, raw 0, raw 2]] (H.of { call := withinK 18 [(0, 500, uk 1 0 250), (2, 500, uk 3 0 250)], facts := [((uk 1 0 250).sub (uk 3 0 250)).sub (Lin.num 1)], mx := [] })) = true := by kernel_rfl
set_option maxRecDepth 100000 in
theorem run_e : isTrue (runK Try.prog 200 7 [.agg [.anysl, .anysl, raw 0, raw 2]] (H.of { call := withinK 18 [(0, 500, uk 1 251 499), (2, 500, uk 3 0 250)], facts := [], mx := [] })) = true := by kernel_rfl
set_option maxRecDepth 100000 in
theorem run_f : isTrue (runK Try.prog 200 7 [.agg [.anysl, .anysl, raw 0, raw 2]] (H.of { call := withinK 18 [(0, 500, uk 1 251 499), (2, 500, uk 3 251 499)], facts := [((uk 1 251 499).sub (uk 3 251 499)).sub (Lin.num 1)], mx := [] })) = true := by kernel_rfl
theorem calls (w : World) (v : Value) (l0 l1 : List Int) (g wd : Int) (h : IsRow w v l0 l1 g wd) : Calls Try.prog 7 #[v] w fun e w' => e = .returned (.bool true) ∧ Below w.heap.size w w' := by
  obtain ⟨A0, c0, A1, c1, rfl, _, _⟩ := h.ex
  have hg := h.g
  have hwd := h.wd
  have hn := h.n0
  obtain ⟨m0, p0, q0, r0⟩ := within_of orders names (by omega) within500 g h.g
  obtain ⟨m2, p2, q2, r2⟩ := within_of orders names (by omega) within500 wd h.wd
  have cases : (m0 ≤ m2 ∧ m2 ≤ 250) ∨ (m0 ≤ 250 ∧ 250 < m2) ∨ (250 < m0 ∧ m0 ≤ m2) ∨ (m2 < m0 ∧ m0 ≤ 250) ∨ (m2 ≤ 250 ∧ 250 < m0) ∨ (250 < m2 ∧ m2 < m0) := by omega
  rcases cases with hc | hc | hc | hc | hc | hc
  · have e0 : env4 g m0 wd m2 l0.length 0 = g := rfl
    refine two_calls (env := (env4 g m0 wd m2 l0.length)) (tab := [(0, 500, uk 1 0 250), (2, 500, uk 3 0 250)]) (facts := [(uk 3 0 250).sub (uk 1 0 250)]) (mx := []) orders names 200 body anysl_rel anysl_rel hg hwd ?_ ?_ ?_ (fun _ h => by cases h) run_a w
    · intro v n e he
      simp only [List.mem_cons, List.not_mem_nil, or_false, Prod.mk.injEq] at he
      rcases he with ⟨rfl, rfl, rfl⟩ | ⟨rfl, rfl, rfl⟩
      · have e : (uk 1 0 250).eval (env4 g m0 wd m2 l0.length) = m0 := uk_eval ..
        rw [e]
        exact ⟨uk_ok (by simp only [env4]; omega), by omega, r0⟩
      · have e : (uk 3 0 250).eval (env4 g m0 wd m2 l0.length) = m2 := uk_eval ..
        rw [e]
        exact ⟨uk_ok (by simp only [env4]; omega), by omega, r2⟩
    · intro v n e he
      simp only [List.mem_cons, List.not_mem_nil, or_false, Prod.mk.injEq] at he
      rcases he with ⟨rfl, rfl, rfl⟩ | ⟨rfl, rfl, rfl⟩
      · simp only [env4]; omega
      · simp only [env4]; omega
    · intro f hf
      simp only [List.mem_cons, List.not_mem_nil, or_false] at hf
      subst hf
      refine ⟨Lin.ok_sub (uk_ok (by simp only [env4]; omega)) (uk_ok (by simp only [env4]; omega)), ?_⟩
      simp only [Lin.eval_sub, uk_eval, env4]; omega
  · have e0 : env4 g m0 wd m2 l0.length 0 = g := rfl
    refine two_calls (env := (env4 g m0 wd m2 l0.length)) (tab := [(0, 500, uk 1 0 250), (2, 500, uk 3 251 499)]) (facts := []) (mx := []) orders names 200 body anysl_rel anysl_rel hg hwd ?_ ?_ ?_ (fun _ h => by cases h) run_b w
    · intro v n e he
      simp only [List.mem_cons, List.not_mem_nil, or_false, Prod.mk.injEq] at he
      rcases he with ⟨rfl, rfl, rfl⟩ | ⟨rfl, rfl, rfl⟩
      · have e : (uk 1 0 250).eval (env4 g m0 wd m2 l0.length) = m0 := uk_eval ..
        rw [e]
        exact ⟨uk_ok (by simp only [env4]; omega), by omega, r0⟩
      · have e : (uk 3 251 499).eval (env4 g m0 wd m2 l0.length) = m2 := uk_eval ..
        rw [e]
        exact ⟨uk_ok (by simp only [env4]; omega), by omega, r2⟩
    · intro v n e he
      simp only [List.mem_cons, List.not_mem_nil, or_false, Prod.mk.injEq] at he
      rcases he with ⟨rfl, rfl, rfl⟩ | ⟨rfl, rfl, rfl⟩
      · simp only [env4]; omega
      · simp only [env4]; omega
    · intro f hf; cases hf
  · have e0 : env4 g m0 wd m2 l0.length 0 = g := rfl
    refine two_calls (env := (env4 g m0 wd m2 l0.length)) (tab := [(0, 500, uk 1 251 499), (2, 500, uk 3 251 499)]) (facts := [(uk 3 251 499).sub (uk 1 251 499)]) (mx := []) orders names 200 body anysl_rel anysl_rel hg hwd ?_ ?_ ?_ (fun _ h => by cases h) run_c w
    · intro v n e he
      simp only [List.mem_cons, List.not_mem_nil, or_false, Prod.mk.injEq] at he
      rcases he with ⟨rfl, rfl, rfl⟩ | ⟨rfl, rfl, rfl⟩
      · have e : (uk 1 251 499).eval (env4 g m0 wd m2 l0.length) = m0 := uk_eval ..
        rw [e]
        exact ⟨uk_ok (by simp only [env4]; omega), by omega, r0⟩
      · have e : (uk 3 251 499).eval (env4 g m0 wd m2 l0.length) = m2 := uk_eval ..
        rw [e]
        exact ⟨uk_ok (by simp only [env4]; omega), by omega, r2⟩
    · intro v n e he
      simp only [List.mem_cons, List.not_mem_nil, or_false, Prod.mk.injEq] at he
      rcases he with ⟨rfl, rfl, rfl⟩ | ⟨rfl, rfl, rfl⟩
      · simp only [env4]; omega
      · simp only [env4]; omega
    · intro f hf
      simp only [List.mem_cons, List.not_mem_nil, or_false] at hf
      subst hf
      refine ⟨Lin.ok_sub (uk_ok (by simp only [env4]; omega)) (uk_ok (by simp only [env4]; omega)), ?_⟩
      simp only [Lin.eval_sub, uk_eval, env4]; omega
  · have e0 : env4 g m0 wd m2 l0.length 0 = g := rfl
    refine two_calls (env := (env4 g m0 wd m2 l0.length)) (tab := [(0, 500, uk 1 0 250), (2, 500, uk 3 0 250)]) (facts := [((uk 1 0 250).sub (uk 3 0 250)).sub (Lin.num 1)]) (mx := []) orders names 200 body anysl_rel anysl_rel hg hwd ?_ ?_ ?_ (fun _ h => by cases h) run_d w
    · intro v n e he
      simp only [List.mem_cons, List.not_mem_nil, or_false, Prod.mk.injEq] at he
      rcases he with ⟨rfl, rfl, rfl⟩ | ⟨rfl, rfl, rfl⟩
      · have e : (uk 1 0 250).eval (env4 g m0 wd m2 l0.length) = m0 := uk_eval ..
        rw [e]
        exact ⟨uk_ok (by simp only [env4]; omega), by omega, r0⟩
      · have e : (uk 3 0 250).eval (env4 g m0 wd m2 l0.length) = m2 := uk_eval ..
        rw [e]
        exact ⟨uk_ok (by simp only [env4]; omega), by omega, r2⟩
    · intro v n e he
      simp only [List.mem_cons, List.not_mem_nil, or_false, Prod.mk.injEq] at he
      rcases he with ⟨rfl, rfl, rfl⟩ | ⟨rfl, rfl, rfl⟩
      · simp only [env4]; omega
      · simp only [env4]; omega
    · intro f hf
      simp only [List.mem_cons, List.not_mem_nil, or_false] at hf
      subst hf
      refine ⟨Lin.ok_sub (Lin.ok_sub (uk_ok (by simp only [env4]; omega)) (uk_ok (by simp only [env4]; omega))) (Lin.ok_num _), ?_⟩
      simp only [Lin.eval_sub, uk_eval, Lin.eval_num, env4]; omega
  · have e0 : env4 g m0 wd m2 l0.length 0 = g := rfl
    refine two_calls (env := (env4 g m0 wd m2 l0.length)) (tab := [(0, 500, uk 1 251 499), (2, 500, uk 3 0 250)]) (facts := []) (mx := []) orders names 200 body anysl_rel anysl_rel hg hwd ?_ ?_ ?_ (fun _ h => by cases h) run_e w
    · intro v n e he
      simp only [List.mem_cons, List.not_mem_nil, or_false, Prod.mk.injEq] at he
      rcases he with ⟨rfl, rfl, rfl⟩ | ⟨rfl, rfl, rfl⟩
      · have e : (uk 1 251 499).eval (env4 g m0 wd m2 l0.length) = m0 := uk_eval ..
        rw [e]
        exact ⟨uk_ok (by simp only [env4]; omega), by omega, r0⟩
      · have e : (uk 3 0 250).eval (env4 g m0 wd m2 l0.length) = m2 := uk_eval ..
        rw [e]
        exact ⟨uk_ok (by simp only [env4]; omega), by omega, r2⟩
    · intro v n e he
      simp only [List.mem_cons, List.not_mem_nil, or_false, Prod.mk.injEq] at he
      rcases he with ⟨rfl, rfl, rfl⟩ | ⟨rfl, rfl, rfl⟩
      · simp only [env4]; omega
      · simp only [env4]; omega
    · intro f hf; cases hf
  · have e0 : env4 g m0 wd m2 l0.length 0 = g := rfl
    refine two_calls (env := (env4 g m0 wd m2 l0.length)) (tab := [(0, 500, uk 1 251 499), (2, 500, uk 3 251 499)]) (facts := [((uk 1 251 499).sub (uk 3 251 499)).sub (Lin.num 1)]) (mx := []) orders names 200 body anysl_rel anysl_rel hg hwd ?_ ?_ ?_ (fun _ h => by cases h) run_f w
    · intro v n e he
      simp only [List.mem_cons, List.not_mem_nil, or_false, Prod.mk.injEq] at he
      rcases he with ⟨rfl, rfl, rfl⟩ | ⟨rfl, rfl, rfl⟩
      · have e : (uk 1 251 499).eval (env4 g m0 wd m2 l0.length) = m0 := uk_eval ..
        rw [e]
        exact ⟨uk_ok (by simp only [env4]; omega), by omega, r0⟩
      · have e : (uk 3 251 499).eval (env4 g m0 wd m2 l0.length) = m2 := uk_eval ..
        rw [e]
        exact ⟨uk_ok (by simp only [env4]; omega), by omega, r2⟩
    · intro v n e he
      simp only [List.mem_cons, List.not_mem_nil, or_false, Prod.mk.injEq] at he
      rcases he with ⟨rfl, rfl, rfl⟩ | ⟨rfl, rfl, rfl⟩
      · simp only [env4]; omega
      · simp only [env4]; omega
    · intro f hf
      simp only [List.mem_cons, List.not_mem_nil, or_false] at hf
      subst hf
      refine ⟨Lin.ok_sub (Lin.ok_sub (uk_ok (by simp only [env4]; omega)) (uk_ok (by simp only [env4]; omega))) (Lin.ok_num _), ?_⟩
      simp only [Lin.eval_sub, uk_eval, Lin.eval_num, env4]; omega
end Go.Proofs.Ythacbaagffpkoaa.RunLayoutBounds
