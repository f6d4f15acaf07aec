/-
The row of the law FlexResolves: for every input it answers true, and leaves what it was handed as it was.
-/
import Derived.Test.YtjjlmmebkemlgaaFxResv
import Derived.Test.YtjjlmmebkemlgaaFxRow
import Derived.Test.YtjjlmmebkemlgaaRows
set_option linter.unusedVariables false
set_option linter.unusedSimpArgs false
namespace Go.Proofs.Ytjjlmmebkemlgaa.TFlexResolves
open Go.ChangeShapes Go.WideShapes Go.ChangeAt Go.RowKit
theorem own : ownKnob Try.prog.godebug = none := by kernel_rfl
theorem laidOut : laidOutB Try.prog = true := by kernel_rfl
theorem spot_blk {P : Program} {w : World} {r : Reach} {base : Nat} {t e : TypeId} (ht : P.underlying t = some (.slice e)) {ad : Addr} {len cap : Nat} (h : Value.okWide P w r base t (.slice (some ad) len cap)) : ad.spot = none ∧ ad.block < w.heap.size := by
  simp only [Value.okWide, ht, Cell.okWide, Cell.ok] at h
  obtain ⟨_, hs, row, cells, hsh, _⟩ := h.2.2
  refine ⟨hs, ?_⟩
  unfold World.shape? at hsh
  cases hh : w.heap[ad.block]? with
  | none => rw [hh] at hsh; simp at hsh
  | some o => exact (Array.getElem?_eq_some_iff.1 hh).1
set_option maxRecDepth 100000 in
theorem lifted (os : Os) (started : os.Started) (H : Type) (enc : TypeId × Value → H) :
    ReturnsInHanded {} Try.checked os 6 .any (Rows.flexResolvesSpec.pre6 enc Try.prog Try.f6 Rows.flexResolvesRow.domain false) (Rows.flexResolvesSpec.post enc Try.prog Try.f6 false true false false) := by
  refine returnsInHanded_of_change_sized (C := Try.checked) own started (by kernel_rfl) Try.func6
    (ChangeSpec.witness6 (enc := enc) (C := Try.checked) false ⟨#[], #[.slice none 0 0], []⟩ 8 (by kernel_rfl) (by kernel_rfl) (by kernel_rfl) (by kernel_rfl)) ?_
  intro W base args ds gs before hval0 hW hcnd hsz0 _
  have hval : ∀ (j : Nat) t v, Try.f6.params[j]? = some t → args[j]? = some v → Value.okWide Try.prog W .any base t v := hval0
  have hW' := hW
  obtain ⟨p, q, hA0, hV, rfl, hfz, hnd⟩ := hW
  have hA : DataW.TrodAll enc Try.prog W 0 (fun _ => true) true Try.f6.params.toList args.toList ds p := hA0
  rw [Try.params6] at hA hval
  obtain ⟨v0, vs0, d0, ds0, p0, q0, hargs, rfl, rfl, h0, r0⟩ := trodAll_cons hA
  obtain ⟨rfl, rfl, rfl⟩ := trodAll_nil r0
  obtain rfl : args = #[v0] := by cases args; simp_all
  obtain ⟨rfl, rfl⟩ := trodVars_none hV
  have hok := hval 0 38 v0 rfl rfl
  obtain ⟨A0, len0, cap0, rfl⟩ := okWide_slice Try.underlying38 hok
  have k0 := h0
  have lt0 : ∀ x ∈ p0, x.block < W.heap.size := by obtain ⟨m, hm⟩ := k0; exact DataW.trod_lt m _ _ _ hm
  obtain ⟨fuel, hfu⟩ := h0
  obtain ⟨A, hAs⟩ := Ai.read_asks (c := .slice A0 len0 cap0) (by simpa [Value.cells] using hfu)
  clear hA0 hval0 hsz0
  refine (Ai.asks_calls (f := 6) (fun h v A ok ha => Ai.resolves_fn Ai.specRes Ai.specFlex Ai.specSort Ai.specEq Ai.specRef (fun _ _ => rfl) (fun _ _ => rfl) ok ha) hAs (fun a n c e => by
    cases e; exact spot_blk Try.underlying38 hok)).mono fun e W' ⟨he, bel⟩ => ?_
  subst he
  exact ⟨_, rfl, _, _, _, [], _, [], hW', trodAll_mk1 (shut_bool Try.underlying4 _), (trodAll_cons_mk (Below.trod laidOut (by kernel_rfl) (of_decide_eq_true (by kernel_rfl)) k0 bel lt0) trodAll_mk0), rfl, bel.frame _, fun h => by cases h⟩
theorem over : Rows.flexResolvesRow.holds Try.pinned (OpenSpec.ofChange Rows.flexResolvesSpec) :=
  OpenClaim.holds_of_wide 6 Try.f6 rfl rfl rfl rfl rfl rfl rfl ⟨rfl, rfl, rfl, rfl, rfl⟩ rfl rfl rfl rfl rfl (by kernel_rfl) Try.func6 (by kernel_rfl)
    (of_decide_eq_true (by kernel_rfl)) (by unfold Func.isWrapper; first | (rw [if_pos (by decide +kernel)]; kernel_rfl) | (rw [if_neg (by decide +kernel)]; exact ⟨rfl, rfl⟩))
    (fun os started H enc _ => lifted os started H enc)
end Go.Proofs.Ytjjlmmebkemlgaa.TFlexResolves
namespace Go.Proofs.Ytjjlmmebkemlgaa
/-- The statement. -/
theorem flexResolves_holds : Rows.FlexResolvesSaid := TFlexResolves.over
#print axioms flexResolves_holds
end Go.Proofs.Ytjjlmmebkemlgaa
