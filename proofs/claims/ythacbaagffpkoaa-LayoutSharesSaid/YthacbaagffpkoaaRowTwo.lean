/-
A struct of two slices of whole numbers and two whole numbers, as a row hands it in.
-/
import Derived.Test.YthacbaagffpkoaaWReadZ
import Derived.Test.YthacbaagffpkoaaRows
import Derived.WalkKit
import Derived.ProofKit
import Derived.OpenShut
import Derived.ChangeOld
import Derived.Below
import Derived.SizedLaws
import Derived.KernelRfl
set_option linter.unusedVariables false
namespace Go.Proofs.Ythacbaagffpkoaa.RowTwo
open Go.ChangeShapes Go.WideShapes Go.ChangeAt Go.RowKit Go.Proofs.YthacbaagffpkoaaW.PrintWords
theorem own : ownKnob Try.prog.godebug = none := by kernel_rfl
theorem laidOut : laidOutB Try.prog = true := by kernel_rfl
def kint : Kd Int := Kd.int .i64
def krow : Kd (List Int × List Int × Int × Int) := Kd.iso (Kd.pair (Kd.slice 3 kint) (Kd.pair (Kd.slice 3 kint) (Kd.pair kint kint))) id
def phi (b : List Int × List Int × Int × Int) : Prop := (b.1.length * 8 ≤ reachBytes ∧ b.1.length ≤ maxLen ∧ ∀ y ∈ b.1, (Lit.int .i64 y).wf = true) ∧ (b.2.1.length * 8 ≤ reachBytes ∧ b.2.1.length ≤ maxLen ∧ ∀ y ∈ b.2.1, (Lit.int .i64 y).wf = true) ∧ (Lit.int .i64 b.2.2.1).wf = true ∧ (Lit.int .i64 b.2.2.2).wf = true
set_option maxRecDepth 100000 in
theorem toldrow : ToldZ Try.prog krow 46 phi :=
  toldz_struct (fun p => p) (fun _ => rfl) Try.underlying46 (by kernel_rfl) (toldz_cons rfl (by kernel_rfl) (toldz_slice Try.underlying26 (by kernel_rfl) (b := 8) (by kernel_rfl) (toldz_of (told_int Try.underlying3))) (toldz_cons rfl (by kernel_rfl) (toldz_slice Try.underlying26 (by kernel_rfl) (b := 8) (by kernel_rfl) (toldz_of (told_int Try.underlying3))) (toldz_cons rfl (by kernel_rfl) (toldz_of (told_int Try.underlying3)) (toldz_last rfl (by kernel_rfl) (toldz_of (told_int Try.underlying3))))))
/-- Such a struct, its slices told. -/
structure IsRow (w : World) (v : Value) (l0 l1 : List Int) (g wd : Int) : Prop where
  ex : ∃ A0 c0 A1 c1, v = .agg #[.slice A0 l0.length c0, .slice A1 l1.length c1, .int .i64 g, .int .i64 wd] ∧ kint.C w A0 l0.length l0 ∧ kint.C w A1 l1.length l1
  n0 : l0.length ≤ 9223372036854775807
  n1 : l1.length ≤ 9223372036854775807
  i0 : ∀ y ∈ l0, -9223372036854775808 ≤ y ∧ y ≤ 9223372036854775807
  i1 : ∀ y ∈ l1, -9223372036854775808 ≤ y ∧ y ≤ 9223372036854775807
  g : -9223372036854775808 ≤ g ∧ g ≤ 9223372036854775807
  wd : -9223372036854775808 ≤ wd ∧ wd ≤ 9223372036854775807
theorem wf_int {n : Int} (h : (Lit.int .i64 n).wf = true) : -9223372036854775808 ≤ n ∧ n ≤ 9223372036854775807 := by
  simp [Lit.wf, IntKind.min, IntKind.max, IntKind.bits, IntKind.signed] at h
  omega
theorem row_of {H : Type} {enc : TypeId × Value → H} {w : World} {base : Nat} {spare : Nat → Bool} {held : Bool} {cs : Array Value} {d : DataW H} {ps : List MemPlace} (h : DataW.Trod enc Try.prog w base spare held 46 (.agg cs) d ps) (hz : ∀ n ∈ d.weights Try.prog 46, n ≤ reachBytes) : ∃ l0 l1 g wd, IsRow w (.agg cs) l0 l1 g wd := by
  obtain ⟨fuel, hf⟩ := h
  obtain ⟨⟨l0, l1, g, wd⟩, ⟨c0, r0, h0, ⟨A0, e0, rfl, q0, hr0⟩, c1, r1, rfl, ⟨A1, e1, rfl, q1, hr1⟩, c2, c3, rfl, h2, h3⟩, hp⟩ := toldrow H enc w base spare held fuel _ _ hf hz
  have h2 : c2 = [.int .i64 g] := h2
  have h3 : c3 = [.int .i64 wd] := h3
  subst h2 h3
  obtain ⟨p0, p1, p2, p3⟩ := hp
  have hc : cs.toList = [.slice A0 l0.length e0, .slice A1 l1.length e1, .int .i64 g, .int .i64 wd] := h0
  refine ⟨l0, l1, g, wd, ⟨A0, e0, A1, e1, ?_, hr0, hr1⟩, by have := p0.2.1; unfold maxLen at this; omega, by have := p1.2.1; unfold maxLen at this; omega, fun y hy => wf_int (p0.2.2 y hy), fun y hy => wf_int (p1.2.2 y hy), wf_int p2, wf_int p3⟩
  congr 1
  apply Array.ext'
  rw [hc]
end Go.Proofs.Ythacbaagffpkoaa.RowTwo
