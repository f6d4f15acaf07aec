/-
The row of the law FlexFrozen: for every input it answers true, and leaves what it was handed as it was.
-/
import Derived.Test.YtjjlmmebkemlgaaRunFlexFrozen
import Derived.Test.YtjjlmmebkemlgaaWReadZ
import Derived.Test.YtjjlmmebkemlgaaRows
import Derived.WalkKit
import Derived.ProofKit
import Derived.OpenShut
import Derived.ChangeOld
import Derived.Below
import Derived.SizedLaws
import Derived.KernelRfl
set_option linter.unusedVariables false
set_option linter.unusedSimpArgs false
namespace Go.Proofs.Ytjjlmmebkemlgaa.TFlexFrozen
open Go.ChangeShapes Go.WideShapes Go.ChangeAt Go.RowKit Go.Proofs.YtjjlmmebkemlgaaW.PrintWords Go.Proofs.Ytjjlmmebkemlgaa.Frozen
theorem own : ownKnob Try.prog.godebug = none := by kernel_rfl
theorem laidOut : laidOutB Try.prog = true := by kernel_rfl
def kint : Kd Int := Kd.int .i64
def kitem : Kd (Int × Int × Int × Int × Int) := Kd.iso (Kd.pair kint (Kd.pair kint (Kd.pair kint (Kd.pair kint kint)))) id
abbrev Item := Int × Int × Int × Int × Int
def kask : Kd (List Item × Int × Int) := Kd.iso (Kd.pair (Kd.slice 46 kitem) (Kd.pair kint kint)) id
def wfI (n : Int) : Prop := (Lit.int .i64 n).wf = true
def phiI (b : Item) : Prop := wfI b.1 ∧ wfI b.2.1 ∧ wfI b.2.2.1 ∧ wfI b.2.2.2.1 ∧ wfI b.2.2.2.2
def phiA (b : List Item × Int × Int) : Prop := (b.1.length * 40 ≤ reachBytes ∧ b.1.length ≤ maxLen ∧ ∀ y ∈ b.1, phiI y) ∧ wfI b.2.1 ∧ wfI b.2.2
set_option maxRecDepth 100000 in
theorem toldI : ToldZ Try.prog kitem 46 phiI :=
  toldz_struct (fun p => p) (fun _ => rfl) Try.underlying46 (by kernel_rfl) (toldz_cons rfl (by kernel_rfl) (toldz_of (told_int Try.underlying3)) (toldz_cons rfl (by kernel_rfl) (toldz_of (told_int Try.underlying3)) (toldz_cons rfl (by kernel_rfl) (toldz_of (told_int Try.underlying3)) (toldz_cons rfl (by kernel_rfl) (toldz_of (told_int Try.underlying3)) (toldz_last rfl (by kernel_rfl) (toldz_of (told_int Try.underlying3)))))))
set_option maxRecDepth 100000 in
theorem toldA : ToldZ Try.prog kask 41 phiA :=
  toldz_struct (fun p => p) (fun _ => rfl) Try.underlying41 (by kernel_rfl) (toldz_cons rfl (by kernel_rfl) (toldz_slice Try.underlying39 (by kernel_rfl) (b := 40) (by kernel_rfl) toldI) (toldz_cons rfl (by kernel_rfl) (toldz_of (told_int Try.underlying3)) (toldz_last rfl (by kernel_rfl) (toldz_of (told_int Try.underlying3)))))
theorem wf_int {n : Int} (h : (Lit.int .i64 n).wf = true) : -9223372036854775808 ≤ n ∧ n ≤ 9223372036854775807 := by
  simp [Lit.wf, IntKind.min, IntKind.max, IntKind.bits, IntKind.signed] at h
  omega
theorem spot_none {P : Program} {w : World} {r : Reach} {base : Nat} {t e : TypeId} (ht : P.underlying t = some (.slice e)) {ad : Addr} {len cap : Nat} (h : Value.okWide P w r base t (.slice (some ad) len cap)) : ad.spot = none := by
  simp only [Value.okWide, ht, Cell.okWide, Cell.ok] at h
  exact h.2.2.2.1
theorem cell_lt {w : World} {a : Addr} {v : Value} (h : w.cell? a = some v) : a.block < w.heap.size := by
  unfold World.cell? at h
  cases hh : w.heap[a.block]? with
  | none => simp [hh] at h
  | some o => exact (Array.getElem?_eq_some_iff.1 hh).1
theorem add_none {ad : Addr} (hs : ad.spot = none) (k : Nat) : ad.add k = ⟨ad.block, ad.off + k, none⟩ := by
  unfold Addr.add
  split
  · rename_i h; subst h; obtain ⟨b, o, s⟩ := ad; simp only at hs; subst hs; rfl
  · rfl
theorem calls (w : World) (A : Option Addr) (cap : Nat) (l : List (List Item × Int × Int)) (hr : kask.C w A l.length l) (hp : ∀ y ∈ l, phiA y) (hs : ∀ ad, A = some ad → ad.spot = none) : Calls Try.prog 11 #[.slice A l.length cap] w fun e w' => e = .returned (.bool true) ∧ Below w.heap.size w w' := by
  rcases Nat.eq_zero_or_pos l.length with h0 | h0
  · rw [h0]; exact calls_none
  · obtain ⟨hl, hn, hA⟩ := hr
    obtain ⟨ad, rfl, hc⟩ := hA h0
    have hs := hs ad rfl
    have hex : ∀ x : Int, -9223372036854775808 ≤ x ∧ x ≤ 9223372036854775807 → ∃ m : Int, (0 ≤ m ∧ m < 1000) ∧ Ai.IsWithin Try.prog 21 x 1000 m := fun x hx => by
      obtain ⟨m, h1, h2, h3⟩ := Ai.within_of orders names (by omega) within1000 x hx
      exact ⟨m, ⟨h1, by omega⟩, h3⟩
    have hW : ∀ x : Int, ∃ m : Int, (-9223372036854775808 ≤ x ∧ x ≤ 9223372036854775807) → (0 ≤ m ∧ m < 1000) ∧ Ai.IsWithin Try.prog 21 x 1000 m := fun x => by
      by_cases hx : -9223372036854775808 ≤ x ∧ x ≤ 9223372036854775807
      · obtain ⟨m, hm⟩ := hex x hx; exact ⟨m, fun _ => hm⟩
      · exact ⟨0, fun h => absurd h hx⟩
    have W : ∃ f : Int → Int, ∀ x, (-9223372036854775808 ≤ x ∧ x ≤ 9223372036854775807) → (0 ≤ f x ∧ f x < 1000) ∧ Ai.IsWithin Try.prog 21 x 1000 (f x) := ⟨fun x => Classical.choose (hW x), fun x => Classical.choose_spec (hW x)⟩
    obtain ⟨f, hf⟩ := W
    let d : Nums := { n := l.length, gap := fun i => (l.getD i ([], 0, 0)).2.1, room := fun i => (l.getD i ([], 0, 0)).2.2, wg := fun i => f (l.getD i ([], 0, 0)).2.1, wr := fun i => f (l.getD i ([], 0, 0)).2.2 }
    have hat : ∀ i, i < l.length → l[i]? = some (l.getD i ([], 0, 0)) ∧ phiA (l.getD i ([], 0, 0)) := fun i hi => by
      have e : l[i]? = some (l.getD i ([], 0, 0)) := by rw [List.getD_eq_getElem?_getD, List.getElem?_eq_getElem hi]; rfl
      exact ⟨e, hp _ (List.mem_of_getElem? e)⟩
    have hd : NumsOk d := ⟨hn, fun i hi _ => by
        have := wf_int (hat i hi).2.2.1
        exact ⟨this, hf _ this⟩, fun i hi _ => by
        have := wf_int (hat i hi).2.2.2
        exact ⟨this, hf _ this⟩⟩
    have cell : ∀ i, i < l.length → (∃ a n c, w.cell? ⟨ad.block, ad.off + 3 * i, none⟩ = some (.slice a n c)) ∧ w.cell? ⟨ad.block, ad.off + (3 * i + 1), none⟩ = some (.int .i64 (d.gap i)) ∧ w.cell? ⟨ad.block, ad.off + (3 * i + 2), none⟩ = some (.int .i64 (d.room i)) := fun i hi => by
      obtain ⟨c, _, ⟨c0, c1, e0, ⟨A0, k0, rfl, _, _⟩, c2, c3, e1, e2, e3⟩, hcell⟩ := hc i _ (hat i hi).1
      have e2 : c2 = [.int .i64 (d.gap i)] := e2
      have e3 : c3 = [.int .i64 (d.room i)] := e3
      subst e2 e3 e1 e0
      have q0 := hcell 0 _ rfl
      have q1 := hcell 1 _ rfl
      have q2 := hcell 2 _ rfl
      have es : kask.sz = 3 := rfl
      rw [es, add_none hs] at q0 q1 q2
      rw [show ad.off + (i * 3 + 0) = ad.off + 3 * i by omega] at q0
      rw [show ad.off + (i * 3 + 1) = ad.off + (3 * i + 1) by omega] at q1
      rw [show ad.off + (i * 3 + 2) = ad.off + (3 * i + 2) by omega] at q2
      exact ⟨⟨_, _, _, q0⟩, q1, q2⟩
    obtain ⟨⟨_, _, _, hc0⟩, _⟩ := cell 0 h0
    refine calls_some hd hs h0 (cell_lt (a := ⟨ad.block, ad.off + 3 * 0, none⟩) hc0) fun i hi hi' => ⟨fun j hj => ?_, (cell i hi).1, (cell i hi).2⟩
    obtain ⟨k1, k2, k3⟩ := cell (j / 3) (by have : i < l.length := hi; omega)
    have : j = 3 * (j / 3) ∨ j = 3 * (j / 3) + 1 ∨ j = 3 * (j / 3) + 2 := by omega
    rcases this with e | e | e
    · rw [e]; obtain ⟨a, n, c, k1⟩ := k1; exact ⟨_, k1, rfl⟩
    · rw [e]; exact ⟨_, k2, rfl⟩
    · rw [e]; exact ⟨_, k3, rfl⟩
set_option maxRecDepth 100000 in
theorem lifted (os : Os) (started : os.Started) (H : Type) (enc : TypeId × Value → H) :
    ReturnsInHanded {} Try.checked os 11 .any (Rows.flexFrozenSpec.pre6 enc Try.prog Try.f11 Rows.flexFrozenRow.domain false) (Rows.flexFrozenSpec.post enc Try.prog Try.f11 false true false false) := by
  refine returnsInHanded_of_change_sized (C := Try.checked) own started (by kernel_rfl) Try.func11
    (ChangeSpec.witness6 (enc := enc) (C := Try.checked) false ⟨#[], #[.slice none 0 0], []⟩ 8 (by kernel_rfl) (by kernel_rfl) (by kernel_rfl) (by kernel_rfl)) ?_
  intro W base args ds gs before hval0 hW hcnd hsz0 _
  have hval : ∀ (j : Nat) t v, Try.f11.params[j]? = some t → args[j]? = some v → Value.okWide Try.prog W .any base t v := hval0
  have hW' := hW
  obtain ⟨p, q, hA0, hV, rfl, hfz, hnd⟩ := hW
  have hA : DataW.TrodAll enc Try.prog W 0 (fun _ => true) true Try.f11.params.toList args.toList ds p := hA0
  rw [Try.params11] at hA hval
  obtain ⟨v0, vs0, d0, ds0, p0, q0, hargs, rfl, rfl, h0, r0⟩ := trodAll_cons hA
  obtain ⟨rfl, rfl, rfl⟩ := trodAll_nil r0
  obtain rfl : args = #[v0] := by cases args; simp_all
  obtain ⟨rfl, rfl⟩ := trodVars_none hV
  have hok := hval 0 38 v0 rfl rfl
  obtain ⟨A0, len0, cap0, rfl⟩ := okWide_slice Try.underlying38 hok
  have k0 := h0
  have lt0 : ∀ x ∈ p0, x.block < W.heap.size := by obtain ⟨m, hm⟩ := k0; exact DataW.trod_lt m _ _ _ hm
  obtain ⟨l0, rfl, hc0, hr0, hp0⟩ := toldz_arg (toldz_slice Try.underlying38 (by kernel_rfl) (b := 40) (by kernel_rfl) toldA) h0 (weights_arg hsz0 0 rfl rfl)
  clear hA0 hval0 hsz0
  refine (calls W A0 cap0 l0 hr0 hp0.2.2 (fun ad e => by subst e; exact spot_none Try.underlying38 hok)).mono fun e W' ⟨he, bel⟩ => ?_
  subst he
  exact ⟨_, rfl, _, _, _, [], _, [], hW', trodAll_mk1 (shut_bool Try.underlying4 _), (trodAll_cons_mk (Below.trod laidOut (by kernel_rfl) (of_decide_eq_true (by kernel_rfl)) k0 bel lt0) trodAll_mk0), rfl, bel.frame _, fun h => by cases h⟩
theorem over : Rows.flexFrozenRow.holds Try.pinned (OpenSpec.ofChange Rows.flexFrozenSpec) :=
  OpenClaim.holds_of_wide 11 Try.f11 rfl rfl rfl rfl rfl rfl rfl ⟨rfl, rfl, rfl, rfl, rfl⟩ rfl rfl rfl rfl rfl (by kernel_rfl) Try.func11 (by kernel_rfl)
    (of_decide_eq_true (by kernel_rfl)) (by unfold Func.isWrapper; first | (rw [if_pos (by decide +kernel)]; kernel_rfl) | (rw [if_neg (by decide +kernel)]; exact ⟨rfl, rfl⟩))
    (fun os started H enc _ => lifted os started H enc)
end Go.Proofs.Ytjjlmmebkemlgaa.TFlexFrozen
namespace Go.Proofs.Ytjjlmmebkemlgaa
/-- The statement. -/
theorem flexFrozen_holds : Rows.FlexFrozenSaid := TFlexFrozen.over
#print axioms flexFrozen_holds
end Go.Proofs.Ytjjlmmebkemlgaa
