/-
The row of the law TopCross: for every input it answers true, and leaves what it was handed as it was.
-/
import Derived.Test.YtgfoiioiknaahaaGreatRunTopCross
import Derived.Test.YtgfoiioiknaahaaGreatRows
import Derived.WalkKit
import Derived.ProofKit
import Derived.OpenShut
import Derived.ChangeOld
import Derived.Below
import Derived.SizedLaws
import Derived.KernelRfl
set_option linter.unusedVariables false
set_option linter.unusedSimpArgs false
namespace Go.Proofs.YtgfoiioiknaahaaGreat.TTopCross
open Go.ChangeShapes Go.WideShapes Go.ChangeAt Go.RowKit
theorem own : ownKnob Tryz.prog.godebug = none := by kernel_rfl
theorem laidOut : laidOutB Tryz.prog = true := by kernel_rfl
theorem cell_slice {P : Program} {w : World} {r : Reach} {base : Nat} {t e : TypeId} {v : Value} (ht : P.underlying t = some (.slice e)) (h : Cell.okWide P w r base t v) : ∃ a len cap, v = .slice a len cap := by
  simp only [Cell.okWide, ht] at h
  cases v <;> simp_all [Cell.ok]
theorem cell_int {P : Program} {w : World} {r : Reach} {base : Nat} {t : TypeId} {v : Value} (ht : P.underlying t = some (.int .i64)) (h : Cell.okWide P w r base t v) : ∃ n, v = .int .i64 n := by
  simp only [Cell.okWide, ht] at h
  cases v <;> simp_all [Cell.ok]
theorem cellTypes : Tryz.prog.cellTypes Tryz.prog.depth 25 = some [3, 22, 23, 23, 3, 23, 3] := by kernel_rfl
set_option maxRecDepth 100000 in
theorem story_of {w : World} {r : Reach} {base : Nat} {v : Value} (h : Value.okWide Tryz.prog w r base 25 v) : ∃ x0 A1 l1 c1 A2 l2 c2 A3 l3 c3 x4 A5 l5 c5 x6, v = .agg #[.int .i64 x0, .slice A1 l1 c1, .slice A2 l2 c2, .slice A3 l3 c3, .int .i64 x4, .slice A5 l5 c5, .int .i64 x6] := by
  simp only [Value.okWide, Tryz.underlying25] at h
  obtain ⟨cs, rfl, hs, ts, hts, _, hc⟩ := h
  rw [cellTypes] at hts
  cases hts
  have hs' : cs.size = 7 := hs.trans (by kernel_rfl)
  obtain ⟨l⟩ := cs
  match l, hs', hc with
  | [z0, z1, z2, z3, z4, z5, z6], _, hc =>
    obtain ⟨u0, e0, k0⟩ := hc 0 z0 rfl
    obtain ⟨u1, e1, k1⟩ := hc 1 z1 rfl
    obtain ⟨u2, e2, k2⟩ := hc 2 z2 rfl
    obtain ⟨u3, e3, k3⟩ := hc 3 z3 rfl
    obtain ⟨u4, e4, k4⟩ := hc 4 z4 rfl
    obtain ⟨u5, e5, k5⟩ := hc 5 z5 rfl
    obtain ⟨u6, e6, k6⟩ := hc 6 z6 rfl
    have h0 : u0 = 3 := by simpa using e0.symm
    have h1 : u1 = 22 := by simpa using e1.symm
    have h2 : u2 = 23 := by simpa using e2.symm
    have h3 : u3 = 23 := by simpa using e3.symm
    have h4 : u4 = 3 := by simpa using e4.symm
    have h5 : u5 = 23 := by simpa using e5.symm
    have h6 : u6 = 3 := by simpa using e6.symm
    subst h0 h1 h2 h3 h4 h5 h6
    obtain ⟨x0, rfl⟩ := cell_int Tryz.underlying3 k0
    obtain ⟨A1, l1, c1, rfl⟩ := cell_slice Tryz.underlying22 k1
    obtain ⟨A2, l2, c2, rfl⟩ := cell_slice Tryz.underlying23 k2
    obtain ⟨A3, l3, c3, rfl⟩ := cell_slice Tryz.underlying23 k3
    obtain ⟨x4, rfl⟩ := cell_int Tryz.underlying3 k4
    obtain ⟨A5, l5, c5, rfl⟩ := cell_slice Tryz.underlying23 k5
    obtain ⟨x6, rfl⟩ := cell_int Tryz.underlying3 k6
    exact ⟨x0, A1, l1, c1, A2, l2, c2, A3, l3, c3, x4, A5, l5, c5, x6, rfl⟩
set_option maxRecDepth 100000 in
theorem lifted (os : Os) (started : os.Started) (H : Type) (enc : TypeId × Value → H) :
    ReturnsInHanded {} Tryz.checked os 5 .any (Rows.topCrossSpec.pre6 enc Tryz.prog Tryz.f5 Rows.topCrossRow.domain false) (Rows.topCrossSpec.post enc Tryz.prog Tryz.f5 false true false false) := by
  refine returnsInHanded_of_change_sized (C := Tryz.checked) own started (by kernel_rfl) Tryz.func5
    (ChangeSpec.witness6 (enc := enc) (C := Tryz.checked) false ⟨#[], #[.agg #[.int .i64 0, .slice none 0 0, .slice none 0 0, .slice none 0 0, .int .i64 0, .slice none 0 0, .int .i64 0]], []⟩ 8 (by kernel_rfl) (by kernel_rfl) (by kernel_rfl) (by kernel_rfl)) ?_
  intro W base args ds gs before hval0 hW hcnd hsz0 _
  have hval : ∀ (j : Nat) t v, Tryz.f5.params[j]? = some t → args[j]? = some v → Value.okWide Tryz.prog W .any base t v := hval0
  have hW' := hW
  obtain ⟨p, q, hA0, hV, rfl, hfz, hnd⟩ := hW
  have hA : DataW.TrodAll enc Tryz.prog W 0 (fun _ => true) true Tryz.f5.params.toList args.toList ds p := hA0
  rw [Tryz.params5] at hA hval
  obtain ⟨v0, vs0, d0, ds0, p0, q0, hargs, rfl, rfl, h0, r0⟩ := trodAll_cons hA
  obtain ⟨rfl, rfl, rfl⟩ := trodAll_nil r0
  obtain rfl : args = #[v0] := by cases args; simp_all
  obtain ⟨rfl, rfl⟩ := trodVars_none hV
  obtain ⟨x0, A1, l1, c1, A2, l2, c2, A3, l3, c3, x4, A5, l5, c5, x6, rfl⟩ := story_of (hval 0 25 v0 rfl rfl)
  have k0 := h0
  have lt0 : ∀ x ∈ p0, x.block < W.heap.size := by obtain ⟨m, hm⟩ := k0; exact DataW.trod_lt m _ _ _ hm
  clear hA0 hval0 hsz0
  refine (TopCross.calls W x0 x4 x6 A1 A2 A3 A5 l1 c1 l2 c2 l3 c3 l5 c5).mono fun e W' ⟨he, bel⟩ => ?_
  subst he
  exact ⟨_, rfl, _, _, _, [], _, [], hW', trodAll_mk1 (shut_bool Tryz.underlying4 _), (trodAll_cons_mk (Below.trod laidOut (by kernel_rfl) (of_decide_eq_true (by kernel_rfl)) k0 bel lt0) trodAll_mk0), rfl, bel.frame _, fun h => by cases h⟩
theorem inPlace : (Rows.topCrossRow.inPlace == Tryz.prog.inPlace 5) = true := by kernel_rfl
theorem unfollowed : (Rows.topCrossRow.unfollowed == Tryz.prog.unfollowed 5) = true := by kernel_rfl
theorem recurses : (Rows.topCrossRow.recurses == Tryz.prog.recurses 5) = true := by kernel_rfl
theorem named : (Rows.topCrossRow.named == Tryz.prog.varsNamed 5) = true := by kernel_rfl
theorem mapsRowed : mapsRowed Tryz.prog = true := by kernel_rfl
theorem closed : joinedFacts Tryz.prog 5 Tryz.f5 Rows.topCrossSpec Rows.topCrossRow = true := by
  unfold joinedFacts
  simp only [Bool.and_eq_true]
  repeat' (with_reducible refine And.intro ?_ ?_)
  all_goals first
    | with_reducible exact laidOut
    | with_reducible exact inPlace
    | with_reducible exact unfollowed
    | with_reducible exact recurses
    | with_reducible exact named
    | with_reducible exact mapsRowed
    | kernel_rfl
theorem over : Rows.topCrossRow.holds Tryz.pinned (OpenSpec.ofChange Rows.topCrossSpec) :=
  OpenClaim.holds_of_wide 5 Tryz.f5 rfl rfl rfl rfl rfl rfl rfl ⟨rfl, rfl, rfl, rfl, rfl⟩ rfl rfl rfl rfl rfl (by kernel_rfl) Tryz.func5 closed
    (of_decide_eq_true (by kernel_rfl)) (by unfold Func.isWrapper; first | (rw [if_pos (by decide +kernel)]; kernel_rfl) | (rw [if_neg (by decide +kernel)]; exact ⟨rfl, rfl⟩))
    (fun os started H enc _ => lifted os started H enc)
end Go.Proofs.YtgfoiioiknaahaaGreat.TTopCross
namespace Go.Proofs.YtgfoiioiknaahaaGreat
/-- The statement. -/
theorem topCross_holds : Rows.TopCrossSaid := TTopCross.over
#print axioms topCross_holds
end Go.Proofs.YtgfoiioiknaahaaGreat
