/-
Within, run with both of its unknown parts: what it tells of any number.
-/
import Derived.Test.YthacbaagffpkoaaAiTop
import Derived.Test.YthacbaagffpkoaaAiFast
set_option linter.unusedVariables false
namespace Go.Ai
open Go.RowKit
def isPart : Option (V × H) → Bool
  | some (.one (.yi .i64 e), _) => eqI e.c 0 && (match e.ts with
    | [t] => eqI t.k 1 && Nat.beq t.v 1
    | _ => false)
  | some (.one (.i .i64 n), _) => false
  | _ => false
theorem isPart_spec {r : Option (V × H)} (h : isPart r = true) : ∃ e h', r = some (.one (.yi .i64 e), h') ∧ ∀ env, e.eval env = env 1 := by
  unfold isPart at h
  split at h
  · rename_i e h'
    simp only [Bool.and_eq_true, eqI_eq] at h
    obtain ⟨h1, h2⟩ := h
    split at h2
    · rename_i t ht
      simp only [Bool.and_eq_true] at h2
      refine ⟨e, h', rfl, fun env => ?_⟩
      have hc : e.c = 0 := by simpa using h1
      have hk : t.k = 1 := by simpa [eqI_eq] using h2.1
      have hv : t.v = 1 := Nat.eq_of_beq_eq_true h2.2
      simp [Lin.eval, ht, hc, evalTs, hk, hv]
    · cases h2
  · cases h
  · cases h
/-- Both cases of a number by n: whole times, and the last time. -/
def withinB (P : Program) (fw n : Nat) : Prop :=
  isPart (runK P 20 fw [parm n 0 0 (18446744073709551615 / n - 1) 1 (n - 1) 0, .one (.i .i64 n)] H.none) = true ∧
  isPart (runK P 20 fw [parm n 0 (18446744073709551615 / n) (18446744073709551615 / n) 1 (18446744073709551615 % n) 0, .one (.i .i64 n)] H.none) = true
theorem within_of {P : Program} (hm : P.follows .mixedOrders = true) (hN : namesB P = true) {fw n : Nat} (hn : 0 < n ∧ n ≤ 9223372036854775807) (hr : withinB P fw n) (x : Int) (hx : -9223372036854775808 ≤ x ∧ x ≤ 9223372036854775807) :
    ∃ m : Int, 0 ≤ m ∧ m < n ∧ IsWithin P fw x n m := by
  obtain ⟨a, m, h0, h1, h2, h3, h4⟩ := parts_of hx (n := n) (by omega)
  have go : ∀ (lo hi uhi : Int), isPart (runK P 20 fw [parm n 0 lo hi 1 uhi 0, .one (.i .i64 n)] H.none) = true → lo ≤ a ∧ a ≤ hi → m ≤ uhi → IsWithin P fw x n m := fun lo hi uhi hp ha hu w => by
    rw [runK_eq] at hp
    obtain ⟨e, h', hx, he⟩ := isPart_spec hp
    have hv : All2 (VR (Inj.none fun v => if v = 0 then a else m)) [parm n 0 lo hi 1 uhi 0, .one (.i .i64 n)] [.int .i64 x, .int .i64 n] :=
      .cons (parm_rel (by simpa using ha) (by simpa using ⟨h1, hu⟩) (by simpa using h4)) (.cons rfl .nil)
    refine (run_calls hm hN (Kn.none_ok P _) hv hx w).mono fun e' w' ⟨ι, cv, hι, h5, h6, h7⟩ => ⟨?_, h7⟩
    obtain ⟨_, h6⟩ := h6
    rw [h5, h6, he, hι, wrap_id (by simp; omega) (by simp; omega)]
    rfl
  refine ⟨m, h1, h2, ?_⟩
  rcases h3 with h3 | ⟨h3, h5⟩
  · exact go _ _ _ hr.1 ⟨h0, h3⟩ (by omega)
  · exact go _ _ _ hr.2 ⟨by omega, by omega⟩ h5
theorem hasBodyB {P : Program} {f : FuncId} (h : (match P.funcs[f]? with
    | some fn => fn.body.isSome && !(fn.name == "runtime.NumGoroutine")
    | none => false) = true) : HasBody P f := by
  split at h
  · rename_i fn hf
    simp only [Bool.and_eq_true, Bool.not_eq_true'] at h
    exact ⟨fn, hf, h.1, h.2⟩
  · cases h
end Go.Ai
