/-
LayoutNests, run with its numbers unknown.
-/
import Derived.Test.YthacbaagffpkoaaAiTwo
import Derived.Test.YthacbaagffpkoaaRowTwo
set_option linter.unusedVariables false
set_option linter.unusedSimpArgs false
namespace Go.Proofs.Ythacbaagffpkoaa.RunLayoutNests
open Go.RowKit Go.Ai Go.Proofs.Ythacbaagffpkoaa.RowTwo
theorem orders : Try.prog.follows .mixedOrders = true := by kernel_rfl
theorem names : namesB Try.prog = true := by kernel_rfl
theorem body : HasBody Try.prog 18 := hasBodyB (by kernel_rfl)
theorem within12 : withinB Try.prog 18 12 := ⟨by kernel_rfl, by kernel_rfl⟩
theorem within20 : withinB Try.prog 18 20 := ⟨by kernel_rfl, by kernel_rfl⟩
set_option maxRecDepth 100000 in
theorem run_n0 : isTrue (runK Try.prog 300 12 [.agg [(.lsl (uk 4 0 9223372036854775807)), .anysl, raw 0, raw 2]] (H.of { call := withinK 18 [(0, 20, uk 1 0 19), (4, 12, Lin.num 0)], facts := [], mx := [] })) = true := by kernel_rfl
set_option maxRecDepth 100000 in
theorem run_n1 : isTrue (runK Try.prog 300 12 [.agg [(.lsl (uk 4 0 9223372036854775807)), .anysl, raw 0, raw 2]] (H.of { call := withinK 18 [(0, 20, uk 1 0 19), (4, 12, Lin.num 1)], facts := [], mx := [] })) = true := by kernel_rfl
set_option maxRecDepth 100000 in
theorem run_n2 : isTrue (runK Try.prog 300 12 [.agg [(.lsl (uk 4 0 9223372036854775807)), .anysl, raw 0, raw 2]] (H.of { call := withinK 18 [(0, 20, uk 1 0 19), (4, 12, Lin.num 2)], facts := [], mx := [] })) = true := by kernel_rfl
set_option maxRecDepth 100000 in
theorem run_n3 : isTrue (runK Try.prog 300 12 [.agg [(.lsl (uk 4 0 9223372036854775807)), .anysl, raw 0, raw 2]] (H.of { call := withinK 18 [(0, 20, uk 1 0 19), (4, 12, Lin.num 3)], facts := [], mx := [] })) = true := by kernel_rfl
set_option maxRecDepth 100000 in
theorem run_n4 : isTrue (runK Try.prog 300 12 [.agg [(.lsl (uk 4 0 9223372036854775807)), .anysl, raw 0, raw 2]] (H.of { call := withinK 18 [(0, 20, uk 1 0 19), (4, 12, Lin.num 4)], facts := [], mx := [] })) = true := by kernel_rfl
set_option maxRecDepth 100000 in
theorem run_n5 : isTrue (runK Try.prog 300 12 [.agg [(.lsl (uk 4 0 9223372036854775807)), .anysl, raw 0, raw 2]] (H.of { call := withinK 18 [(0, 20, uk 1 0 19), (4, 12, Lin.num 5)], facts := [], mx := [] })) = true := by kernel_rfl
set_option maxRecDepth 100000 in
theorem run_n6 : isTrue (runK Try.prog 300 12 [.agg [(.lsl (uk 4 0 9223372036854775807)), .anysl, raw 0, raw 2]] (H.of { call := withinK 18 [(0, 20, uk 1 0 19), (4, 12, Lin.num 6)], facts := [], mx := [] })) = true := by kernel_rfl
set_option maxRecDepth 100000 in
theorem run_n7 : isTrue (runK Try.prog 300 12 [.agg [(.lsl (uk 4 0 9223372036854775807)), .anysl, raw 0, raw 2]] (H.of { call := withinK 18 [(0, 20, uk 1 0 19), (4, 12, Lin.num 7)], facts := [], mx := [] })) = true := by kernel_rfl
set_option maxRecDepth 100000 in
theorem run_n8 : isTrue (runK Try.prog 300 12 [.agg [(.lsl (uk 4 0 9223372036854775807)), .anysl, raw 0, raw 2]] (H.of { call := withinK 18 [(0, 20, uk 1 0 19), (4, 12, Lin.num 8)], facts := [], mx := [] })) = true := by kernel_rfl
set_option maxRecDepth 100000 in
theorem run_n9 : isTrue (runK Try.prog 300 12 [.agg [(.lsl (uk 4 0 9223372036854775807)), .anysl, raw 0, raw 2]] (H.of { call := withinK 18 [(0, 20, uk 1 0 19), (4, 12, Lin.num 9)], facts := [], mx := [] })) = true := by kernel_rfl
set_option maxRecDepth 100000 in
theorem run_n10 : isTrue (runK Try.prog 300 12 [.agg [(.lsl (uk 4 0 9223372036854775807)), .anysl, raw 0, raw 2]] (H.of { call := withinK 18 [(0, 20, uk 1 0 19), (4, 12, Lin.num 10)], facts := [], mx := [] })) = true := by kernel_rfl
set_option maxRecDepth 100000 in
theorem run_n11 : isTrue (runK Try.prog 300 12 [.agg [(.lsl (uk 4 0 9223372036854775807)), .anysl, raw 0, raw 2]] (H.of { call := withinK 18 [(0, 20, uk 1 0 19), (4, 12, Lin.num 11)], facts := [], mx := [] })) = true := by kernel_rfl
theorem calls (w : World) (v : Value) (l0 l1 : List Int) (g wd : Int) (h : IsRow w v l0 l1 g wd) : Calls Try.prog 12 #[v] w fun e w' => e = .returned (.bool true) ∧ Below w.heap.size w w' := by
  obtain ⟨A0, c0, A1, c1, rfl, _, _⟩ := h.ex
  have hg := h.g
  have hwd := h.wd
  have hn := h.n0
  obtain ⟨m0, p0, q0, r0⟩ := within_of orders names (by omega) within20 g h.g
  obtain ⟨m4, p4, q4, r4⟩ := within_of orders names (by omega) within12 (l0.length : Int) ⟨by omega, by have := h.n0; omega⟩
  have cases : (m4 = 0) ∨ (m4 = 1) ∨ (m4 = 2) ∨ (m4 = 3) ∨ (m4 = 4) ∨ (m4 = 5) ∨ (m4 = 6) ∨ (m4 = 7) ∨ (m4 = 8) ∨ (m4 = 9) ∨ (m4 = 10) ∨ (m4 = 11) := by omega
  rcases cases with hc | hc | hc | hc | hc | hc | hc | hc | hc | hc | hc | hc
  · have e0 : env4 g m0 wd 0 l0.length 0 = g := rfl
    refine two_calls (env := (env4 g m0 wd 0 l0.length)) (tab := [(0, 20, uk 1 0 19), (4, 12, Lin.num 0)]) (facts := []) (mx := []) orders names 300 body (lsl_rel rfl hn) anysl_rel hg hwd ?_ ?_ ?_ (fun _ h => by cases h) run_n0 w
    · intro v n e he
      simp only [List.mem_cons, List.not_mem_nil, or_false, Prod.mk.injEq] at he
      rcases he with ⟨rfl, rfl, rfl⟩ | ⟨rfl, rfl, rfl⟩
      · have e : (uk 1 0 19).eval (env4 g m0 wd 0 l0.length) = m0 := uk_eval ..
        rw [e]
        exact ⟨uk_ok (by simp only [env4]; omega), by omega, r0⟩
      · have e : (Lin.num 0).eval (env4 g m0 wd 0 l0.length) = m4 := by rw [Lin.eval_num]; omega
        rw [e]
        exact ⟨Lin.ok_num _, by omega, r4⟩
    · intro v n e he
      simp only [List.mem_cons, List.not_mem_nil, or_false, Prod.mk.injEq] at he
      rcases he with ⟨rfl, rfl, rfl⟩ | ⟨rfl, rfl, rfl⟩
      · simp only [env4]; omega
      · simp only [env4]; omega
    · intro f hf; cases hf
  · have e0 : env4 g m0 wd 0 l0.length 0 = g := rfl
    refine two_calls (env := (env4 g m0 wd 0 l0.length)) (tab := [(0, 20, uk 1 0 19), (4, 12, Lin.num 1)]) (facts := []) (mx := []) orders names 300 body (lsl_rel rfl hn) anysl_rel hg hwd ?_ ?_ ?_ (fun _ h => by cases h) run_n1 w
    · intro v n e he
      simp only [List.mem_cons, List.not_mem_nil, or_false, Prod.mk.injEq] at he
      rcases he with ⟨rfl, rfl, rfl⟩ | ⟨rfl, rfl, rfl⟩
      · have e : (uk 1 0 19).eval (env4 g m0 wd 0 l0.length) = m0 := uk_eval ..
        rw [e]
        exact ⟨uk_ok (by simp only [env4]; omega), by omega, r0⟩
      · have e : (Lin.num 1).eval (env4 g m0 wd 0 l0.length) = m4 := by rw [Lin.eval_num]; omega
        rw [e]
        exact ⟨Lin.ok_num _, by omega, r4⟩
    · intro v n e he
      simp only [List.mem_cons, List.not_mem_nil, or_false, Prod.mk.injEq] at he
      rcases he with ⟨rfl, rfl, rfl⟩ | ⟨rfl, rfl, rfl⟩
      · simp only [env4]; omega
      · simp only [env4]; omega
    · intro f hf; cases hf
  · have e0 : env4 g m0 wd 0 l0.length 0 = g := rfl
    refine two_calls (env := (env4 g m0 wd 0 l0.length)) (tab := [(0, 20, uk 1 0 19), (4, 12, Lin.num 2)]) (facts := []) (mx := []) orders names 300 body (lsl_rel rfl hn) anysl_rel hg hwd ?_ ?_ ?_ (fun _ h => by cases h) run_n2 w
    · intro v n e he
      simp only [List.mem_cons, List.not_mem_nil, or_false, Prod.mk.injEq] at he
      rcases he with ⟨rfl, rfl, rfl⟩ | ⟨rfl, rfl, rfl⟩
      · have e : (uk 1 0 19).eval (env4 g m0 wd 0 l0.length) = m0 := uk_eval ..
        rw [e]
        exact ⟨uk_ok (by simp only [env4]; omega), by omega, r0⟩
      · have e : (Lin.num 2).eval (env4 g m0 wd 0 l0.length) = m4 := by rw [Lin.eval_num]; omega
        rw [e]
        exact ⟨Lin.ok_num _, by omega, r4⟩
    · intro v n e he
      simp only [List.mem_cons, List.not_mem_nil, or_false, Prod.mk.injEq] at he
      rcases he with ⟨rfl, rfl, rfl⟩ | ⟨rfl, rfl, rfl⟩
      · simp only [env4]; omega
      · simp only [env4]; omega
    · intro f hf; cases hf
  · have e0 : env4 g m0 wd 0 l0.length 0 = g := rfl
    refine two_calls (env := (env4 g m0 wd 0 l0.length)) (tab := [(0, 20, uk 1 0 19), (4, 12, Lin.num 3)]) (facts := []) (mx := []) orders names 300 body (lsl_rel rfl hn) anysl_rel hg hwd ?_ ?_ ?_ (fun _ h => by cases h) run_n3 w
    · intro v n e he
      simp only [List.mem_cons, List.not_mem_nil, or_false, Prod.mk.injEq] at he
      rcases he with ⟨rfl, rfl, rfl⟩ | ⟨rfl, rfl, rfl⟩
      · have e : (uk 1 0 19).eval (env4 g m0 wd 0 l0.length) = m0 := uk_eval ..
        rw [e]
        exact ⟨uk_ok (by simp only [env4]; omega), by omega, r0⟩
      · have e : (Lin.num 3).eval (env4 g m0 wd 0 l0.length) = m4 := by rw [Lin.eval_num]; omega
        rw [e]
        exact ⟨Lin.ok_num _, by omega, r4⟩
    · intro v n e he
      simp only [List.mem_cons, List.not_mem_nil, or_false, Prod.mk.injEq] at he
      rcases he with ⟨rfl, rfl, rfl⟩ | ⟨rfl, rfl, rfl⟩
      · simp only [env4]; omega
      · simp only [env4]; omega
    · intro f hf; cases hf
  · have e0 : env4 g m0 wd 0 l0.length 0 = g := rfl
    refine two_calls (env := (env4 g m0 wd 0 l0.length)) (tab := [(0, 20, uk 1 0 19), (4, 12, Lin.num 4)]) (facts := []) (mx := []) orders names 300 body (lsl_rel rfl hn) anysl_rel hg hwd ?_ ?_ ?_ (fun _ h => by cases h) run_n4 w
    · intro v n e he
      simp only [List.mem_cons, List.not_mem_nil, or_false, Prod.mk.injEq] at he
      rcases he with ⟨rfl, rfl, rfl⟩ | ⟨rfl, rfl, rfl⟩
      · have e : (uk 1 0 19).eval (env4 g m0 wd 0 l0.length) = m0 := uk_eval ..
        rw [e]
        exact ⟨uk_ok (by simp only [env4]; omega), by omega, r0⟩
      · have e : (Lin.num 4).eval (env4 g m0 wd 0 l0.length) = m4 := by rw [Lin.eval_num]; omega
        rw [e]
        exact ⟨Lin.ok_num _, by omega, r4⟩
    · intro v n e he
      simp only [List.mem_cons, List.not_mem_nil, or_false, Prod.mk.injEq] at he
      rcases he with ⟨rfl, rfl, rfl⟩ | ⟨rfl, rfl, rfl⟩
      · simp only [env4]; omega
      · simp only [env4]; omega
    · intro f hf; cases hf
  · have e0 : env4 g m0 wd 0 l0.length 0 = g := rfl
    refine two_calls (env := (env4 g m0 wd 0 l0.length)) (tab := [(0, 20, uk 1 0 19), (4, 12, Lin.num 5)]) (facts := []) (mx := []) orders names 300 body (lsl_rel rfl hn) anysl_rel hg hwd ?_ ?_ ?_ (fun _ h => by cases h) run_n5 w
    · intro v n e he
      simp only [List.mem_cons, List.not_mem_nil, or_false, Prod.mk.injEq] at he
      rcases he with ⟨rfl, rfl, rfl⟩ | ⟨rfl, rfl, rfl⟩
      · have e : (uk 1 0 19).eval (env4 g m0 wd 0 l0.length) = m0 := uk_eval ..
        rw [e]
        exact ⟨uk_ok (by simp only [env4]; omega), by omega, r0⟩
      · have e : (Lin.num 5).eval (env4 g m0 wd 0 l0.length) = m4 := by rw [Lin.eval_num]; omega
        rw [e]
        exact ⟨Lin.ok_num _, by omega, r4⟩
    · intro v n e he
      simp only [List.mem_cons, List.not_mem_nil, or_false, Prod.mk.injEq] at he
      rcases he with ⟨rfl, rfl, rfl⟩ | ⟨rfl, rfl, rfl⟩
      · simp only [env4]; omega
      · simp only [env4]; omega
    · intro f hf; cases hf
  · have e0 : env4 g m0 wd 0 l0.length 0 = g := rfl
    refine two_calls (env := (env4 g m0 wd 0 l0.length)) (tab := [(0, 20, uk 1 0 19), (4, 12, Lin.num 6)]) (facts := []) (mx := []) orders names 300 body (lsl_rel rfl hn) anysl_rel hg hwd ?_ ?_ ?_ (fun _ h => by cases h) run_n6 w
    · intro v n e he
      simp only [List.mem_cons, List.not_mem_nil, or_false, Prod.mk.injEq] at he
      rcases he with ⟨rfl, rfl, rfl⟩ | ⟨rfl, rfl, rfl⟩
      · have e : (uk 1 0 19).eval (env4 g m0 wd 0 l0.length) = m0 := uk_eval ..
        rw [e]
        exact ⟨uk_ok (by simp only [env4]; omega), by omega, r0⟩
      · have e : (Lin.num 6).eval (env4 g m0 wd 0 l0.length) = m4 := by rw [Lin.eval_num]; omega
        rw [e]
        exact ⟨Lin.ok_num _, by omega, r4⟩
    · intro v n e he
      simp only [List.mem_cons, List.not_mem_nil, or_false, Prod.mk.injEq] at he
      rcases he with ⟨rfl, rfl, rfl⟩ | ⟨rfl, rfl, rfl⟩
      · simp only [env4]; omega
      · simp only [env4]; omega
    · intro f hf; cases hf
  · have e0 : env4 g m0 wd 0 l0.length 0 = g := rfl
    refine two_calls (env := (env4 g m0 wd 0 l0.length)) (tab := [(0, 20, uk 1 0 19), (4, 12, Lin.num 7)]) (facts := []) (mx := []) orders names 300 body (lsl_rel rfl hn) anysl_rel hg hwd ?_ ?_ ?_ (fun _ h => by cases h) run_n7 w
    · intro v n e he
      simp only [List.mem_cons, List.not_mem_nil, or_false, Prod.mk.injEq] at he
      rcases he with ⟨rfl, rfl, rfl⟩ | ⟨rfl, rfl, rfl⟩
      · have e : (uk 1 0 19).eval (env4 g m0 wd 0 l0.length) = m0 := uk_eval ..
        rw [e]
        exact ⟨uk_ok (by simp only [env4]; omega), by omega, r0⟩
      · have e : (Lin.num 7).eval (env4 g m0 wd 0 l0.length) = m4 := by rw [Lin.eval_num]; omega
        rw [e]
        exact ⟨Lin.ok_num _, by omega, r4⟩
    · intro v n e he
      simp only [List.mem_cons, List.not_mem_nil, or_false, Prod.mk.injEq] at he
      rcases he with ⟨rfl, rfl, rfl⟩ | ⟨rfl, rfl, rfl⟩
      · simp only [env4]; omega
      · simp only [env4]; omega
    · intro f hf; cases hf
  · have e0 : env4 g m0 wd 0 l0.length 0 = g := rfl
    refine two_calls (env := (env4 g m0 wd 0 l0.length)) (tab := [(0, 20, uk 1 0 19), (4, 12, Lin.num 8)]) (facts := []) (mx := []) orders names 300 body (lsl_rel rfl hn) anysl_rel hg hwd ?_ ?_ ?_ (fun _ h => by cases h) run_n8 w
    · intro v n e he
      simp only [List.mem_cons, List.not_mem_nil, or_false, Prod.mk.injEq] at he
      rcases he with ⟨rfl, rfl, rfl⟩ | ⟨rfl, rfl, rfl⟩
      · have e : (uk 1 0 19).eval (env4 g m0 wd 0 l0.length) = m0 := uk_eval ..
        rw [e]
        exact ⟨uk_ok (by simp only [env4]; omega), by omega, r0⟩
      · have e : (Lin.num 8).eval (env4 g m0 wd 0 l0.length) = m4 := by rw [Lin.eval_num]; omega
        rw [e]
        exact ⟨Lin.ok_num _, by omega, r4⟩
    · intro v n e he
      simp only [List.mem_cons, List.not_mem_nil, or_false, Prod.mk.injEq] at he
      rcases he with ⟨rfl, rfl, rfl⟩ | ⟨rfl, rfl, rfl⟩
      · simp only [env4]; omega
      · simp only [env4]; omega
    · intro f hf; cases hf
  · have e0 : env4 g m0 wd 0 l0.length 0 = g := rfl
    refine two_calls (env := (env4 g m0 wd 0 l0.length)) (tab := [(0, 20, uk 1 0 19), (4, 12, Lin.num 9)]) (facts := []) (mx := []) orders names 300 body (lsl_rel rfl hn) anysl_rel hg hwd ?_ ?_ ?_ (fun _ h => by cases h) run_n9 w
    · intro v n e he
      simp only [List.mem_cons, List.not_mem_nil, or_false, Prod.mk.injEq] at he
      rcases he with ⟨rfl, rfl, rfl⟩ | ⟨rfl, rfl, rfl⟩
      · have e : (uk 1 0 19).eval (env4 g m0 wd 0 l0.length) = m0 := uk_eval ..
        rw [e]
        exact ⟨uk_ok (by simp only [env4]; omega), by omega, r0⟩
      · have e : (Lin.num 9).eval (env4 g m0 wd 0 l0.length) = m4 := by rw [Lin.eval_num]; omega
        rw [e]
        exact ⟨Lin.ok_num _, by omega, r4⟩
    · intro v n e he
      simp only [List.mem_cons, List.not_mem_nil, or_false, Prod.mk.injEq] at he
      rcases he with ⟨rfl, rfl, rfl⟩ | ⟨rfl, rfl, rfl⟩
      · simp only [env4]; omega
      · simp only [env4]; omega
    · intro f hf; cases hf
  · have e0 : env4 g m0 wd 0 l0.length 0 = g := rfl
    refine two_calls (env := (env4 g m0 wd 0 l0.length)) (tab := [(0, 20, uk 1 0 19), (4, 12, Lin.num 10)]) (facts := []) (mx := []) orders names 300 body (lsl_rel rfl hn) anysl_rel hg hwd ?_ ?_ ?_ (fun _ h => by cases h) run_n10 w
    · intro v n e he
      simp only [List.mem_cons, List.not_mem_nil, or_false, Prod.mk.injEq] at he
      rcases he with ⟨rfl, rfl, rfl⟩ | ⟨rfl, rfl, rfl⟩
      · have e : (uk 1 0 19).eval (env4 g m0 wd 0 l0.length) = m0 := uk_eval ..
        rw [e]
        exact ⟨uk_ok (by simp only [env4]; omega), by omega, r0⟩
      · have e : (Lin.num 10).eval (env4 g m0 wd 0 l0.length) = m4 := by rw [Lin.eval_num]; omega
        rw [e]
        exact ⟨Lin.ok_num _, by omega, r4⟩
    · intro v n e he
      simp only [List.mem_cons, List.not_mem_nil, or_false, Prod.mk.injEq] at he
      rcases he with ⟨rfl, rfl, rfl⟩ | ⟨rfl, rfl, rfl⟩
      · simp only [env4]; omega
      · simp only [env4]; omega
    · intro f hf; cases hf
  · have e0 : env4 g m0 wd 0 l0.length 0 = g := rfl
    refine two_calls (env := (env4 g m0 wd 0 l0.length)) (tab := [(0, 20, uk 1 0 19), (4, 12, Lin.num 11)]) (facts := []) (mx := []) orders names 300 body (lsl_rel rfl hn) anysl_rel hg hwd ?_ ?_ ?_ (fun _ h => by cases h) run_n11 w
    · intro v n e he
      simp only [List.mem_cons, List.not_mem_nil, or_false, Prod.mk.injEq] at he
      rcases he with ⟨rfl, rfl, rfl⟩ | ⟨rfl, rfl, rfl⟩
      · have e : (uk 1 0 19).eval (env4 g m0 wd 0 l0.length) = m0 := uk_eval ..
        rw [e]
        exact ⟨uk_ok (by simp only [env4]; omega), by omega, r0⟩
      · have e : (Lin.num 11).eval (env4 g m0 wd 0 l0.length) = m4 := by rw [Lin.eval_num]; omega
        rw [e]
        exact ⟨Lin.ok_num _, by omega, r4⟩
    · intro v n e he
      simp only [List.mem_cons, List.not_mem_nil, or_false, Prod.mk.injEq] at he
      rcases he with ⟨rfl, rfl, rfl⟩ | ⟨rfl, rfl, rfl⟩
      · simp only [env4]; omega
      · simp only [env4]; omega
    · intro f hf; cases hf
end Go.Proofs.Ythacbaagffpkoaa.RunLayoutNests
