/-
LayoutAcross, run with its numbers unknown.
-/
import Derived.Test.YthacbaagffpkoaaAiTwo
import Derived.Test.YthacbaagffpkoaaRowTwo
set_option linter.unusedVariables false
set_option linter.unusedSimpArgs false
namespace Go.Proofs.Ythacbaagffpkoaa.RunLayoutAcross
open Go.RowKit Go.Ai Go.Proofs.Ythacbaagffpkoaa.RowTwo
theorem orders : Try.prog.follows .mixedOrders = true := by kernel_rfl
theorem names : namesB Try.prog = true := by kernel_rfl
theorem body : HasBody Try.prog 18 := hasBodyB (by kernel_rfl)
theorem within1000 : withinB Try.prog 18 1000 := ⟨by kernel_rfl, by kernel_rfl⟩
set_option maxRecDepth 100000 in
theorem run_c00 : isTrue (runK Try.prog 200 9 [.agg [.anysl, .anysl, raw 0, raw 2]] (H.of { call := withinK 18 [(2, 1000, ukc 2 3 0 499 0), (0, 1000, ukc 2 1 0 499 0)], facts := [], mx := [] })) = true := by kernel_rfl
set_option maxRecDepth 100000 in
theorem run_c01 : isTrue (runK Try.prog 200 9 [.agg [.anysl, .anysl, raw 0, raw 2]] (H.of { call := withinK 18 [(2, 1000, ukc 2 3 0 499 1), (0, 1000, ukc 2 1 0 499 0)], facts := [], mx := [] })) = true := by kernel_rfl
set_option maxRecDepth 100000 in
theorem run_c10 : isTrue (runK Try.prog 200 9 [.agg [.anysl, .anysl, raw 0, raw 2]] (H.of { call := withinK 18 [(2, 1000, ukc 2 3 0 499 0), (0, 1000, ukc 2 1 0 499 1)], facts := [], mx := [] })) = true := by kernel_rfl
set_option maxRecDepth 100000 in
theorem run_c11 : isTrue (runK Try.prog 200 9 [.agg [.anysl, .anysl, raw 0, raw 2]] (H.of { call := withinK 18 [(2, 1000, ukc 2 3 0 499 1), (0, 1000, ukc 2 1 0 499 1)], facts := [], mx := [] })) = true := by kernel_rfl
theorem calls (w : World) (v : Value) (l0 l1 : List Int) (g wd : Int) (h : IsRow w v l0 l1 g wd) : Calls Try.prog 9 #[v] w fun e w' => e = .returned (.bool true) ∧ Below w.heap.size w w' := by
  obtain ⟨A0, c0, A1, c1, rfl, _, _⟩ := h.ex
  have hg := h.g
  have hwd := h.wd
  have hn := h.n0
  obtain ⟨m0, p0, q0, r0⟩ := within_of orders names (by omega) within1000 g h.g
  obtain ⟨m2, p2, q2, r2⟩ := within_of orders names (by omega) within1000 wd h.wd
  have cases : (m0 % 2 = 0 ∧ m2 % 2 = 0) ∨ (m0 % 2 = 0 ∧ m2 % 2 = 1) ∨ (m0 % 2 = 1 ∧ m2 % 2 = 0) ∨ (m0 % 2 = 1 ∧ m2 % 2 = 1) := by omega
  rcases cases with hc | hc | hc | hc
  · have e0 : env4 g (m0 / 2) wd (m2 / 2) l0.length 0 = g := rfl
    refine two_calls (env := (env4 g (m0 / 2) wd (m2 / 2) l0.length)) (tab := [(2, 1000, ukc 2 3 0 499 0), (0, 1000, ukc 2 1 0 499 0)]) (facts := []) (mx := []) orders names 200 body anysl_rel anysl_rel hg hwd ?_ ?_ ?_ (fun _ h => by cases h) run_c00 w
    · intro v n e he
      simp only [List.mem_cons, List.not_mem_nil, or_false, Prod.mk.injEq] at he
      rcases he with ⟨rfl, rfl, rfl⟩ | ⟨rfl, rfl, rfl⟩
      · have e : (ukc 2 3 0 499 0).eval (env4 g (m0 / 2) wd (m2 / 2) l0.length) = m2 := by rw [ukc_eval]; show 2 * (m2 / 2) + 0 = m2; omega
        rw [e]
        exact ⟨ukc_ok (by show _ ∧ _; simp only [env4]; omega), by omega, r2⟩
      · have e : (ukc 2 1 0 499 0).eval (env4 g (m0 / 2) wd (m2 / 2) l0.length) = m0 := by rw [ukc_eval]; show 2 * (m0 / 2) + 0 = m0; omega
        rw [e]
        exact ⟨ukc_ok (by show _ ∧ _; simp only [env4]; omega), by omega, r0⟩
    · intro v n e he
      simp only [List.mem_cons, List.not_mem_nil, or_false, Prod.mk.injEq] at he
      rcases he with ⟨rfl, rfl, rfl⟩ | ⟨rfl, rfl, rfl⟩
      · simp only [env4]; omega
      · simp only [env4]; omega
    · intro f hf; cases hf
  · have e0 : env4 g (m0 / 2) wd (m2 / 2) l0.length 0 = g := rfl
    refine two_calls (env := (env4 g (m0 / 2) wd (m2 / 2) l0.length)) (tab := [(2, 1000, ukc 2 3 0 499 1), (0, 1000, ukc 2 1 0 499 0)]) (facts := []) (mx := []) orders names 200 body anysl_rel anysl_rel hg hwd ?_ ?_ ?_ (fun _ h => by cases h) run_c01 w
    · intro v n e he
      simp only [List.mem_cons, List.not_mem_nil, or_false, Prod.mk.injEq] at he
      rcases he with ⟨rfl, rfl, rfl⟩ | ⟨rfl, rfl, rfl⟩
      · have e : (ukc 2 3 0 499 1).eval (env4 g (m0 / 2) wd (m2 / 2) l0.length) = m2 := by rw [ukc_eval]; show 2 * (m2 / 2) + 1 = m2; omega
        rw [e]
        exact ⟨ukc_ok (by show _ ∧ _; simp only [env4]; omega), by omega, r2⟩
      · have e : (ukc 2 1 0 499 0).eval (env4 g (m0 / 2) wd (m2 / 2) l0.length) = m0 := by rw [ukc_eval]; show 2 * (m0 / 2) + 0 = m0; omega
        rw [e]
        exact ⟨ukc_ok (by show _ ∧ _; simp only [env4]; omega), by omega, r0⟩
    · intro v n e he
      simp only [List.mem_cons, List.not_mem_nil, or_false, Prod.mk.injEq] at he
      rcases he with ⟨rfl, rfl, rfl⟩ | ⟨rfl, rfl, rfl⟩
      · simp only [env4]; omega
      · simp only [env4]; omega
    · intro f hf; cases hf
  · have e0 : env4 g (m0 / 2) wd (m2 / 2) l0.length 0 = g := rfl
    refine two_calls (env := (env4 g (m0 / 2) wd (m2 / 2) l0.length)) (tab := [(2, 1000, ukc 2 3 0 499 0), (0, 1000, ukc 2 1 0 499 1)]) (facts := []) (mx := []) orders names 200 body anysl_rel anysl_rel hg hwd ?_ ?_ ?_ (fun _ h => by cases h) run_c10 w
    · intro v n e he
      simp only [List.mem_cons, List.not_mem_nil, or_false, Prod.mk.injEq] at he
      rcases he with ⟨rfl, rfl, rfl⟩ | ⟨rfl, rfl, rfl⟩
      · have e : (ukc 2 3 0 499 0).eval (env4 g (m0 / 2) wd (m2 / 2) l0.length) = m2 := by rw [ukc_eval]; show 2 * (m2 / 2) + 0 = m2; omega
        rw [e]
        exact ⟨ukc_ok (by show _ ∧ _; simp only [env4]; omega), by omega, r2⟩
      · have e : (ukc 2 1 0 499 1).eval (env4 g (m0 / 2) wd (m2 / 2) l0.length) = m0 := by rw [ukc_eval]; show 2 * (m0 / 2) + 1 = m0; omega
        rw [e]
        exact ⟨ukc_ok (by show _ ∧ _; simp only [env4]; omega), by omega, r0⟩
    · intro v n e he
      simp only [List.mem_cons, List.not_mem_nil, or_false, Prod.mk.injEq] at he
      rcases he with ⟨rfl, rfl, rfl⟩ | ⟨rfl, rfl, rfl⟩
      · simp only [env4]; omega
      · simp only [env4]; omega
    · intro f hf; cases hf
  · have e0 : env4 g (m0 / 2) wd (m2 / 2) l0.length 0 = g := rfl
    refine two_calls (env := (env4 g (m0 / 2) wd (m2 / 2) l0.length)) (tab := [(2, 1000, ukc 2 3 0 499 1), (0, 1000, ukc 2 1 0 499 1)]) (facts := []) (mx := []) orders names 200 body anysl_rel anysl_rel hg hwd ?_ ?_ ?_ (fun _ h => by cases h) run_c11 w
    · intro v n e he
      simp only [List.mem_cons, List.not_mem_nil, or_false, Prod.mk.injEq] at he
      rcases he with ⟨rfl, rfl, rfl⟩ | ⟨rfl, rfl, rfl⟩
      · have e : (ukc 2 3 0 499 1).eval (env4 g (m0 / 2) wd (m2 / 2) l0.length) = m2 := by rw [ukc_eval]; show 2 * (m2 / 2) + 1 = m2; omega
        rw [e]
        exact ⟨ukc_ok (by show _ ∧ _; simp only [env4]; omega), by omega, r2⟩
      · have e : (ukc 2 1 0 499 1).eval (env4 g (m0 / 2) wd (m2 / 2) l0.length) = m0 := by rw [ukc_eval]; show 2 * (m0 / 2) + 1 = m0; omega
        rw [e]
        exact ⟨ukc_ok (by show _ ∧ _; simp only [env4]; omega), by omega, r0⟩
    · intro v n e he
      simp only [List.mem_cons, List.not_mem_nil, or_false, Prod.mk.injEq] at he
      rcases he with ⟨rfl, rfl, rfl⟩ | ⟨rfl, rfl, rfl⟩
      · simp only [env4]; omega
      · simp only [env4]; omega
    · intro f hf; cases hf
end Go.Proofs.Ythacbaagffpkoaa.RunLayoutAcross
