/-
What the machine runs to, from no blocks at all: the program's call, whatever the world.
-/
import Derived.Test.YtjjlmmebkemlgaaAiDraw5
set_option linter.unusedVariables false
set_option linter.unusedSimpArgs false
namespace Go.Ai
open Go.RowKit
def H.none : H := { tr := .e, next := 0, floor := 0, hid := [] }
def Inj.none : Inj := { dom := fun _ => False, blk := fun _ => 0, sh := fun _ => 0, lim := fun _ => 0, caps := fun _ => #[] }
theorem H.none_get (b : Nat) : H.none.get b = Option.none := rfl
theorem HR.none (P : Program) (w : World) : HR P Inj.none H.none w :=
  ⟨fun _ h => h.elim, fun b o h => absurd h (by rw [H.none_get]; simp), fun b b' o o' h => absurd h (by rw [H.none_get]; simp), fun _ _ => rfl, fun b o h => absurd h (by rw [H.none_get]; simp)⟩
theorem Wr.none (c : Nat) : ¬ Wr Inj.none H.none c := fun ⟨b, o, h, _⟩ => absurd h (by rw [H.none_get]; simp)
/-- Is no function with a body the one that tells how many routines there are? -/
def namesB (P : Program) : Bool := P.funcs.toList.all fun fn => !(fn.body.isSome && fn.name == "runtime.NumGoroutine")
theorem namesB_spec {P : Program} (h : namesB P = true) (f : FuncId) (fn : Func) (hf : P.funcs[f]? = some fn) (hb : fn.body.isSome = true) : (fn.name == "runtime.NumGoroutine") = false := by
  unfold namesB at h
  rw [List.all_eq_true] at h
  have := h fn (by rw [← Array.getElem?_toList] at hf; exact List.mem_of_getElem? hf)
  rw [hb] at this
  simpa using this
theorem run_calls {P : Program} (hm : P.follows .mixedOrders = true) (hN : namesB P = true) {n : Nat} {f : FuncId} {args : List V} {cargs : List Value} {v : V} {h' : H} (ha : All2 (VR Inj.none) args cargs) (hx : runF P n f args H.none = some (v, h')) (w : World) :
    Calls P f cargs.toArray w fun e w' => ∃ ι cv, e = .returned cv ∧ VR ι v cv ∧ Below w.heap.size w w' :=
  ((runF_sound hm (namesB_spec hN) n).sim f args H.none v h' hx Inj.none w cargs (HR.none P w) ha).mono fun e w' ⟨ι, cv, he, hv, s⟩ =>
    ⟨ι, cv, he, hv, ⟨s.os, s.tape, s.output, s.size, fun c hc => s.fr c hc (Wr.none c)⟩⟩
def isTrue : Option (V × H) → Bool
  | some (.one (.b true), _) => true
  | _ => false
theorem isTrue_spec {r : Option (V × H)} (h : isTrue r = true) : ∃ h', r = some (.one (.b true), h') := by
  unfold isTrue at h
  split at h
  · exact ⟨_, rfl⟩
  · cases h
theorem run_true {P : Program} (hm : P.follows .mixedOrders = true) (hN : namesB P = true) (n : Nat) {f : FuncId} {args : List V} {cargs : List Value} (ha : All2 (VR Inj.none) args cargs) (hx : isTrue (runF P n f args H.none) = true) (w : World) :
    Calls P f cargs.toArray w fun e w' => e = .returned (.bool true) ∧ Below w.heap.size w w' := by
  obtain ⟨h', hx⟩ := isTrue_spec hx
  exact (run_calls hm hN ha hx w).mono fun e w' ⟨ι, cv, he, hv, hb⟩ => by
    have hv : cv = .bool true := hv
    subst hv
    exact ⟨he, hb⟩
end Go.Ai
