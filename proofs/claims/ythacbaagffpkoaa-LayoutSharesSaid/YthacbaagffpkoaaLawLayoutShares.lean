/-
The row of the law LayoutShares: for every input it answers true, and leaves what it was handed as it was.
-/
import Derived.Test.YthacbaagffpkoaaRunLayoutShares
set_option linter.unusedVariables false
namespace Go.Proofs.Ythacbaagffpkoaa.TLayoutShares
open Go.ChangeShapes Go.WideShapes Go.ChangeAt Go.RowKit Go.Proofs.Ythacbaagffpkoaa.RowTwo Go.Proofs.YthacbaagffpkoaaW.PrintWords
theorem cellTypes : Try.prog.cellTypes Try.prog.depth 46 = some [26, 26, 3, 3] := by kernel_rfl
set_option maxRecDepth 100000 in
theorem spot_of {w : World} {r : Reach} {base : Nat} {A0 : Option Addr} {n0 c0 n1 c1 : Nat} {ad : Addr} {x y : Value} (h : Value.okWide Try.prog w r base 46 (.agg #[.slice A0 n0 c0, .slice (some ad) n1 c1, x, y])) : ad.spot = none := by
  simp only [Value.okWide, Try.underlying46] at h
  obtain ⟨cs, e, hs, ts, hts, _, hc⟩ := h
  cases e
  rw [cellTypes] at hts
  cases hts
  obtain ⟨u1, e1, k1⟩ := hc 1 _ rfl
  have h1 : u1 = 26 := by simpa using e1.symm
  subst h1
  simp only [Cell.okWide, Try.underlying26, Cell.ok] at k1
  exact k1.2.2.2.1
set_option maxRecDepth 100000 in
theorem lifted (os : Os) (started : os.Started) (H : Type) (enc : TypeId × Value → H) :
    ReturnsInHanded {} Try.checked os 5 .any (Rows.layoutSharesSpec.pre6 enc Try.prog Try.f5 Rows.layoutSharesRow.domain false) (Rows.layoutSharesSpec.post enc Try.prog Try.f5 false true false false) := by
  refine returnsInHanded_of_change_sized (C := Try.checked) own started (by kernel_rfl) Try.func5
    (ChangeSpec.witness6 (enc := enc) (C := Try.checked) false ⟨#[], #[.agg #[.slice none 0 0, .slice none 0 0, .int .i64 0, .int .i64 0]], []⟩ 8 (by kernel_rfl) (by kernel_rfl) (by kernel_rfl) (by kernel_rfl)) ?_
  intro W base args ds gs before hval0 hW hcnd hsz0 _
  have hval : ∀ (j : Nat) t v, Try.f5.params[j]? = some t → args[j]? = some v → Value.okWide Try.prog W .any base t v := hval0
  have hW' := hW
  obtain ⟨p, q, hA0, hV, rfl, hfz, hnd⟩ := hW
  have hA : DataW.TrodAll enc Try.prog W 0 (fun _ => true) true Try.f5.params.toList args.toList ds p := hA0
  rw [Try.params5] at hA hval
  obtain ⟨v0, vs0, d0, ds0, p0, q0, hargs, rfl, rfl, h0, r0⟩ := trodAll_cons hA
  obtain ⟨rfl, rfl, rfl⟩ := trodAll_nil r0
  obtain rfl : args = #[v0] := by cases args; simp_all
  obtain ⟨rfl, rfl⟩ := trodVars_none hV
  have hok := hval 0 46 v0 rfl rfl
  obtain ⟨cs, rfl, _⟩ := okWide_struct Try.underlying46 (hval 0 46 v0 rfl rfl)
  have k0 := h0
  have lt0 : ∀ x ∈ p0, x.block < W.heap.size := by obtain ⟨m, hm⟩ := k0; exact DataW.trod_lt m _ _ _ hm
  obtain ⟨l0, l1, g, wd, hrow⟩ := row_of h0 (weights_arg hsz0 0 rfl rfl)
  clear hA0 hval0 hsz0
  refine (Shares.calls W _ l0 l1 g wd hrow (fun A0 n0 c0 ad n1 c1 x y e => by cases e; exact spot_of hok)).mono fun e W' ⟨he, bel⟩ => ?_
  subst he
  exact ⟨_, rfl, _, _, _, [], _, [], hW', trodAll_mk1 (shut_bool Try.underlying4 _), (trodAll_cons_mk (Below.trod laidOut (by kernel_rfl) (of_decide_eq_true (by kernel_rfl)) k0 bel lt0) trodAll_mk0), rfl, bel.frame _, fun h => by cases h⟩
theorem over : Rows.layoutSharesRow.holds Try.pinned (OpenSpec.ofChange Rows.layoutSharesSpec) :=
  OpenClaim.holds_of_wide 5 Try.f5 rfl rfl rfl rfl rfl rfl rfl ⟨rfl, rfl, rfl, rfl, rfl⟩ rfl rfl rfl rfl rfl (by kernel_rfl) Try.func5 (by kernel_rfl)
    (of_decide_eq_true (by kernel_rfl)) (by unfold Func.isWrapper; first | (rw [if_pos (by decide +kernel)]; kernel_rfl) | (rw [if_neg (by decide +kernel)]; exact ⟨rfl, rfl⟩))
    (fun os started H enc _ => lifted os started H enc)
end Go.Proofs.Ythacbaagffpkoaa.TLayoutShares
namespace Go.Proofs.Ythacbaagffpkoaa
/-- The statement. -/
theorem layoutShares_holds : Rows.LayoutSharesSaid := TLayoutShares.over
#print axioms layoutShares_holds
end Go.Proofs.Ythacbaagffpkoaa
