/-
The row of the law CacheTurns: for every input it answers true, and leaves what it was handed as it was.
-/
import Derived.Test.YtgilkmhpdcfliaaRunCacheTurns
import Derived.Test.YtgilkmhpdcfliaaRows
import Derived.WalkKit
import Derived.ProofKit
import Derived.OpenShut
import Derived.ChangeOld
import Derived.Below
import Derived.SizedLaws
import Derived.KernelRfl
set_option linter.unusedVariables false
set_option linter.unusedSimpArgs false
namespace Go.Proofs.Ytgilkmhpdcfliaa.TCacheTurns
open Go.ChangeShapes Go.WideShapes Go.ChangeAt Go.RowKit
theorem own : ownKnob Try.prog.godebug = none := by kernel_rfl
theorem laidOut : laidOutB Try.prog = true := by kernel_rfl
theorem cell_slice {P : Program} {w : World} {r : Reach} {base : Nat} {t e : TypeId} {v : Value} (ht : P.underlying t = some (.slice e)) (h : Cell.okWide P w r base t v) : ∃ a len cap, v = .slice a len cap := by
  simp only [Cell.okWide, ht] at h
  cases v <;> simp_all [Cell.ok]
theorem cellTypes : Try.prog.cellTypes Try.prog.depth 25 = some [22, 23, 23] := by kernel_rfl
set_option maxRecDepth 100000 in
theorem script_of {w : World} {r : Reach} {base : Nat} {v : Value} (h : Value.okWide Try.prog w r base 25 v) : ∃ A0 l0 c0 A1 l1 c1 A2 l2 c2, v = .agg #[.slice A0 l0 c0, .slice A1 l1 c1, .slice A2 l2 c2] := by
  simp only [Value.okWide, Try.underlying25] at h
  obtain ⟨cs, rfl, hs, ts, hts, _, hc⟩ := h
  rw [cellTypes] at hts
  cases hts
  have hs' : cs.size = 3 := hs.trans (by kernel_rfl)
  obtain ⟨l⟩ := cs
  match l, hs', hc with
  | [x, y, z], _, hc =>
    obtain ⟨u0, e0, k0⟩ := hc 0 x rfl
    obtain ⟨u1, e1, k1⟩ := hc 1 y rfl
    obtain ⟨u2, e2, k2⟩ := hc 2 z rfl
    have h0 : u0 = 22 := by simpa using e0.symm
    have h1 : u1 = 23 := by simpa using e1.symm
    have h2 : u2 = 23 := by simpa using e2.symm
    subst h0 h1 h2
    obtain ⟨A0, l0, c0, rfl⟩ := cell_slice Try.underlying22 k0
    obtain ⟨A1, l1, c1, rfl⟩ := cell_slice Try.underlying23 k1
    obtain ⟨A2, l2, c2, rfl⟩ := cell_slice Try.underlying23 k2
    exact ⟨A0, l0, c0, A1, l1, c1, A2, l2, c2, rfl⟩
set_option maxRecDepth 100000 in
theorem lifted (os : Os) (started : os.Started) (H : Type) (enc : TypeId × Value → H) :
    ReturnsInHanded {} Try.checked os 4 .any (Rows.cacheTurnsSpec.pre6 enc Try.prog Try.f4 Rows.cacheTurnsRow.domain false) (Rows.cacheTurnsSpec.post enc Try.prog Try.f4 false true false false) := by
  refine returnsInHanded_of_change_sized (C := Try.checked) own started (by kernel_rfl) Try.func4
    (ChangeSpec.witness6 (enc := enc) (C := Try.checked) false ⟨#[], #[.agg #[.slice none 0 0, .slice none 0 0, .slice none 0 0]], []⟩ 8 (by kernel_rfl) (by kernel_rfl) (by kernel_rfl) (by kernel_rfl)) ?_
  intro W base args ds gs before hval0 hW hcnd hsz0 _
  have hval : ∀ (j : Nat) t v, Try.f4.params[j]? = some t → args[j]? = some v → Value.okWide Try.prog W .any base t v := hval0
  have hW' := hW
  obtain ⟨p, q, hA0, hV, rfl, hfz, hnd⟩ := hW
  have hA : DataW.TrodAll enc Try.prog W 0 (fun _ => true) true Try.f4.params.toList args.toList ds p := hA0
  rw [Try.params4] at hA hval
  obtain ⟨v0, vs0, d0, ds0, p0, q0, hargs, rfl, rfl, h0, r0⟩ := trodAll_cons hA
  obtain ⟨rfl, rfl, rfl⟩ := trodAll_nil r0
  obtain rfl : args = #[v0] := by cases args; simp_all
  obtain ⟨rfl, rfl⟩ := trodVars_none hV
  obtain ⟨A0, l0, c0, A1, l1, c1, A2, l2, c2, rfl⟩ := script_of (hval 0 25 v0 rfl rfl)
  have k0 := h0
  have lt0 : ∀ x ∈ p0, x.block < W.heap.size := by obtain ⟨m, hm⟩ := k0; exact DataW.trod_lt m _ _ _ hm
  clear hA0 hval0 hsz0
  refine (CacheTurns.calls W A0 A1 A2 l0 c0 l1 c1 l2 c2).mono fun e W' ⟨he, bel⟩ => ?_
  subst he
  exact ⟨_, rfl, _, _, _, [], _, [], hW', trodAll_mk1 (shut_bool Try.underlying4 _), (trodAll_cons_mk (Below.trod laidOut (by kernel_rfl) (of_decide_eq_true (by kernel_rfl)) k0 bel lt0) trodAll_mk0), rfl, bel.frame _, fun h => by cases h⟩
theorem over : Rows.cacheTurnsRow.holds Try.pinned (OpenSpec.ofChange Rows.cacheTurnsSpec) :=
  OpenClaim.holds_of_wide 4 Try.f4 rfl rfl rfl rfl rfl rfl rfl ⟨rfl, rfl, rfl, rfl, rfl⟩ rfl rfl rfl rfl rfl (by kernel_rfl) Try.func4 (by kernel_rfl)
    (of_decide_eq_true (by kernel_rfl)) (by unfold Func.isWrapper; first | (rw [if_pos (by decide +kernel)]; kernel_rfl) | (rw [if_neg (by decide +kernel)]; exact ⟨rfl, rfl⟩))
    (fun os started H enc _ => lifted os started H enc)
end Go.Proofs.Ytgilkmhpdcfliaa.TCacheTurns
namespace Go.Proofs.Ytgilkmhpdcfliaa
/-- The statement. -/
theorem cacheTurns_holds : Rows.CacheTurnsSaid := TCacheTurns.over
#print axioms cacheTurns_holds
end Go.Proofs.Ytgilkmhpdcfliaa
