/-
LayoutWraps, part 4 of 48: AiHeap AiOps1.
-/
import Derived.Laws.Append
import Derived.Laws.CopyRow
import Derived.Tactics
import Derived.Test.YthacbaagffpkoaaLw03
set_option linter.unusedVariables false
set_option linter.unusedSimpArgs false
namespace Go.Ai
theorem H.get_some {h : H} {b : Nat} {o : O} (k : h.get b = some o) : hidden h.hid b = false ∧ h.tr.get b = some o := by
 unfold H.get at k
 cases e : hidden h.hid b with
 | true => rw [e] at k; exact absurd k (by simp)
 | false => rw [e] at k; exact ⟨rfl, k⟩
theorem H.get_of {h : H} {b : Nat} {o : O} (k : hidden h.hid b = false) (k2 : h.tr.get b = some o) : h.get b = some o := by
 unfold H.get; rw [k, k2]; rfl
theorem H.may_iff {h : H} {b : Nat} (k : h.may b = true) : (h.floor ≤ b ∧ hidden h.frz b = false) ∧ hidden h.hid b = false := by
 simp only [H.may, Bool.and_eq_true, Bool.not_eq_true'] at k;exact ⟨⟨Nat.le_of_ble_eq_true k.1.1, k.2⟩, k.1.2⟩
theorem H.get_put {h : H} {b c : Nat} {o o' : O} (k : h.get b = some o) : (h.put b o').get c = if c = b then some o' else h.get c := by
 obtain ⟨k1, _⟩ := H.get_some k;show cond (hidden h.hid c) none ((h.tr.set b o').get c) = _;rw [T.get_set]
 by_cases e : c = b
 ·subst e; rw [k1, if_pos rfl, if_pos rfl]; rfl
 ·rw [if_neg e, if_neg e]; rfl
theorem H.get_kill {h : H} {b c : Nat} : (h.kill b).get c = if c = b then none else h.get c := by
 show cond (hidden h.hid c) none ((h.tr.upd b none).get c) = _;rw [T.get_upd]
 by_cases e : c = b
 ·rw [if_pos e, if_pos e]; cases hidden h.hid c <;> rfl
 ·rw [if_neg e, if_neg e]; rfl
def Inj.add (ι : Inj) (b blk sh lim : Nat) (caps : Array Value) : Inj where
 dom x := x = b ∨ ι.dom x
 blk x := if x = b then blk else ι.blk x
 sh x := if x = b then sh else ι.sh x
 lim x := if x = b then lim else ι.lim x
 caps x := if x = b then caps else ι.caps x
 rest x := if x = b then fun _ => none else ι.rest x
 env := ι.env
theorem Inj.add_ext {ι : Inj} {b blk sh lim : Nat} {caps : Array Value} (h : ¬ ι.dom b) : Ext ι (ι.add b blk sh lim caps) :=
 ⟨fun _ h => .inr h, fun x hx => by
  have e : x ≠ b := fun e => h (e ▸ hx)
  exact ⟨by simp [Inj.add, e], by simp [Inj.add, e], by simp [Inj.add, e], by simp [Inj.add, e], by simp [Inj.add, e]⟩, rfl⟩
section
variable {P : Program} {ι : Inj} {h : H} {w : World}
theorem HR.fresh (k : HR P ι h w) : ¬ ι.dom h.next := fun e => Nat.lt_irrefl _ (k.dom _ e)
theorem ORel.oldWorld {w w' : World} {b : Nat} {o : O} (hg : o.ghostly = false → ∀ x, w.heap[ι.blk b]? = some x → w'.heap[ι.blk b]? = some x) (k : ORel P ι b w o) : ORel P ι b w' o := by
 cases o with
 | cells t cs n => obtain ⟨c, h1, r⟩ := k; exact ⟨c, hg rfl _ h1, r⟩
 | map es => obtain ⟨c, cl, h1, r⟩ := k; exact ⟨c, cl, hg rfl _ h1, r⟩
 | ro cs n =>
  refine ⟨fun j hj => ?_, fun c s hc => ?_⟩
  ·obtain ⟨x, v, p, q, r⟩ := k.1 j hj;refine ⟨x, v, p, ?_, r⟩;unfold World.cell? at q ⊢
   cases hh : w.heap[ι.blk b]? with
   | none => simp [hh] at q
   | some y => rw [hg rfl y hh]; simpa [hh] using q
  ·obtain ⟨h1, h2, q, t, h3⟩ := k.2 c s hc;exact ⟨h1, h2, q, t, by rw [← h1] at h3 ⊢; exact hg rfl _ h3⟩
 | ghost vs => exact k
theorem ORel.keep {w' : World} {b : Nat} {o : O} (k : ORel P ι b w o) (e : o.ghostly = false → w'.heap[ι.blk b]? = w.heap[ι.blk b]?) : ORel P ι b w' o :=
 ORel.oldWorld (fun hg x hx => by rw [e hg]; exact hx) k
theorem Step.newObj (k : HR P ι h w) (o : O) (obj : Obj) (sh lim : Nat) (caps : Array Value)
  (hn : ORel P (ι.add h.next w.heap.size sh lim caps) h.next (w.alloc obj) o) :
  Step P ι h w (ι.add h.next w.heap.size sh lim caps) (h.alloc o) (w.alloc obj) := by
 have hid := k.hid h.next (Nat.le_refl _);have hext : Ext ι (ι.add h.next w.heap.size sh lim caps) := Inj.add_ext k.fresh;have hold : ∀ b o', b ≠ h.next → h.get b = some o' → ι.dom b ∧ (o'.real = true → ι.blk b < w.heap.size) := fun b o' _ hb => ⟨(k.obj b o' hb).1, fun hr => k.lt b o' hb (by cases o' <;> first | rfl | simp [O.real] at hr)⟩
 refine ⟨hext, ⟨?_, ?_, ?_, ?_, ?_, fun b hb => k.frz b (Nat.le_of_succ_le hb), k.kn⟩, by simp, rfl, rfl, rfl, rfl, rfl, Nat.le_succ _, fun b hb => hb.elim (fun e => .inr (Nat.le_of_eq e.symm)) .inl,
  fun b o' hb hg => ⟨o', by rw [H.get_alloc _ _ _ hid, if_neg (by omega)] at hg; exact hg, rfl, rfl⟩,
  fun b o' hb hg => by
   rw [H.get_alloc _ _ _ hid] at hg
   by_cases e : b = h.next
   ·exact .inr (.inr (by simp [Inj.add, e]))
   ·rw [if_neg e] at hg; exact absurd (k.dom b (k.obj b o' hg).1) (by omega), ?_, ?_, rfl, rfl⟩
 ·rintro b (rfl | hb)
  ·exact Nat.lt_succ_self _
  ·exact Nat.lt_succ_of_lt (k.dom b hb)
 ·intro b o' hb;rw [H.get_alloc _ _ _ hid] at hb
  by_cases e : b = h.next
  ·rw [if_pos e] at hb; cases hb; subst e; exact ⟨.inl rfl, hn⟩
  ·rw [if_neg e] at hb;obtain ⟨hd, hR⟩ := k.obj b o' hb;refine ⟨.inr hd, ?_⟩;have hR' : ORel P ι b (w.alloc obj) o' := ORel.oldWorld (fun hg x hx => by rw [heap_alloc_old w obj _ (Array.getElem?_eq_some_iff.1 hx).1]; exact hx) hR;exact ORel.ext hext hd rfl hR'
 ·intro b b' o1 o2 hb hb' h1 h2 hne;rw [H.get_alloc _ _ _ hid] at hb hb'
  by_cases e : b = h.next
  ·by_cases e' : b' = h.next
   ·exact absurd (e.trans e'.symm) hne
   ·rw [if_neg e'] at hb';have hd := (k.obj b' o2 hb').1;simp only [Inj.add, if_pos e, if_neg e'];intro he;have := k.lt b' o2 hb' h2; omega
  ·rw [if_neg e] at hb;have hlt := k.lt b o1 hb (by cases o1 <;> first | rfl | simp [O.real] at h1)
   by_cases e' : b' = h.next
   ·simp only [Inj.add, if_pos e', if_neg e]; omega
   ·rw [if_neg e'] at hb';simp only [Inj.add, if_neg e, if_neg e'];exact k.inj b b' o1 o2 hb hb' h1 h2 hne
 ·intro b hb;exact k.hid b (Nat.le_of_succ_le hb)
 ·intro b o' hb hg;rw [H.get_alloc _ _ _ hid] at hb
  by_cases e : b = h.next
  ·simp only [Inj.add, if_pos e, World.size_alloc]; omega
  ·rw [if_neg e] at hb;simp only [Inj.add, if_neg e, World.size_alloc];exact Nat.lt_succ_of_lt (k.lt b o' hb hg)
 ·rintro c hc ⟨b, o', hb, h1, h2, rfl⟩;rw [H.get_alloc _ _ _ hid] at hb
  by_cases e : b = h.next
  ·simp only [Inj.add, if_pos e] at hc; omega
  ·rw [if_neg e] at hb;simp only [Inj.add, if_neg e] at hc ⊢;exact ⟨b, o', hb, h1, h2, rfl⟩
 ·intro c hc _;exact heap_alloc_old w obj c hc
theorem Step.newGhost (k : HR P ι h w) (vs : List V) (caps : Array Value) (hn : All2 (VR ι) vs caps.toList) :
  Step P ι h w (ι.add h.next 0 0 0 caps) (h.alloc (.ghost vs)) w := by
 have hid := k.hid h.next (Nat.le_refl _);have hext : Ext ι (ι.add h.next 0 0 0 caps) := Inj.add_ext k.fresh
 refine ⟨hext, ⟨?_, ?_, ?_, ?_, ?_, fun b hb => k.frz b (Nat.le_of_succ_le hb), k.kn⟩, Nat.le_refl _, rfl, rfl, rfl, rfl, rfl, Nat.le_succ _, fun b hb => hb.elim (fun e => .inr (Nat.le_of_eq e.symm)) .inl,
  fun b o' hb hg => ⟨o', by rw [H.get_alloc _ _ _ hid, if_neg (by omega)] at hg; exact hg, rfl, rfl⟩,
  fun b o' hb hg => by
   rw [H.get_alloc _ _ _ hid] at hg
   by_cases e : b = h.next
   ·rw [if_pos e] at hg; cases hg; exact .inr (.inl rfl)
   ·rw [if_neg e] at hg; exact absurd (k.dom b (k.obj b o' hg).1) (by omega), ?_, fun _ _ _ => rfl, rfl, rfl⟩
 ·rintro b (rfl | hb)
  ·exact Nat.lt_succ_self _
  ·exact Nat.lt_succ_of_lt (k.dom b hb)
 ·intro b o' hb;rw [H.get_alloc _ _ _ hid] at hb
  by_cases e : b = h.next
  ·rw [if_pos e] at hb; cases hb; subst e;refine ⟨.inl rfl, ?_⟩;show All2 _ vs _;simp only [Inj.add, if_true];exact VR.all hext hn
  ·rw [if_neg e] at hb;obtain ⟨hd, hR⟩ := k.obj b o' hb;exact ⟨.inr hd, ORel.ext hext hd rfl hR⟩
 ·intro b b' o1 o2 hb hb' h1 h2 hne;rw [H.get_alloc _ _ _ hid] at hb hb'
  by_cases e : b = h.next
  ·rw [if_pos e] at hb; cases hb; simp [O.real] at h1
  ·rw [if_neg e] at hb
   by_cases e' : b' = h.next
   ·rw [if_pos e'] at hb'; cases hb'; simp [O.ghostly] at h2
   ·rw [if_neg e'] at hb';simp only [Inj.add, if_neg e, if_neg e'];exact k.inj b b' o1 o2 hb hb' h1 h2 hne
 ·intro b hb;exact k.hid b (Nat.le_of_succ_le hb)
 ·intro b o' hb hg;rw [H.get_alloc _ _ _ hid] at hb
  by_cases e : b = h.next
  ·rw [if_pos e] at hb; cases hb; simp [O.ghostly] at hg
  ·rw [if_neg e] at hb;simp only [Inj.add, if_neg e];exact k.lt b o' hb hg
 ·rintro c hc ⟨b, o', hb, h1, h2, rfl⟩;rw [H.get_alloc _ _ _ hid] at hb
  by_cases e : b = h.next
  ·rw [if_pos e] at hb; cases hb; simp [O.real] at h1
  ·rw [if_neg e] at hb;simp only [Inj.add, if_neg e] at hc ⊢;exact ⟨b, o', hb, h1, h2, rfl⟩
theorem O.real_not {o : O} (h : o.real = true) : o.ghostly = false := by cases o <;> first | rfl | simp [O.real] at h
theorem Step.putObj (k : HR P ι h w) {b : Nat} {o o' : O} (hb : h.get b = some o) (hr : o.real = true) (hm : h.may b = true) {w' : World} (hsz : w'.heap.size = w.heap.size) (hos : w'.os = w.os) (htp : w'.tape = w.tape) (hout : w'.output = w.output)
  (hoth : ∀ g, g ≠ ι.blk b → w'.heap[g]? = w.heap[g]?) (hr' : o'.real = true) (hn : ORel P ι b w' o') : Step P ι h w ι (h.put b o') w' := by
 have hfl := (H.may_iff hm).1
 refine ⟨.refl ι, ⟨k.dom, ?_, ?_, k.hid, ?_, k.frz, k.kn⟩, by omega, hos, htp, hout, rfl, rfl, Nat.le_refl _, fun _ h => .inl h,
  fun c x _ hc => by
   rw [H.get_put hb] at hc
   by_cases e : c = b
   ·rw [if_pos e] at hc; cases hc; exact ⟨o, by rw [e]; exact hb, by rw [hr, hr'], by rw [O.real_not hr, O.real_not hr']⟩
   ·rw [if_neg e] at hc; exact ⟨x, hc, rfl, rfl⟩,
  fun c x hn hc => by
   rw [H.get_put hb] at hc
   by_cases e : c = b
   ·exact absurd (k.dom b (k.obj b o hb).1) (by omega)
   ·rw [if_neg e] at hc; exact absurd (k.dom c (k.obj c x hc).1) (by omega), ?_, ?_, rfl, rfl⟩
 ·intro c x hc;rw [H.get_put hb] at hc
  by_cases e : c = b
  ·rw [if_pos e] at hc; cases hc; subst e; exact ⟨(k.obj c o hb).1, hn⟩
  ·rw [if_neg e] at hc;obtain ⟨hd, hR⟩ := k.obj c x hc;exact ⟨hd, hR.keep fun hg => hoth _ fun q => k.inj b c o x hb hc hr hg (Ne.symm e) q.symm⟩
 ·intro c c' x x' hc hc' h1 h2 hne;rw [H.get_put hb] at hc hc'
  by_cases e : c = b
  ·by_cases e' : c' = b
   ·exact absurd (e.trans e'.symm) hne
   ·rw [if_neg e'] at hc'; subst e; exact k.inj _ _ _ _ hb hc' hr h2 hne
  ·rw [if_neg e] at hc
   by_cases e' : c' = b
   ·subst e'; exact k.inj _ _ _ _ hc hb h1 (O.real_not hr) hne
   ·rw [if_neg e'] at hc'; exact k.inj _ _ _ _ hc hc' h1 h2 hne
 ·intro c x hc hg;rw [H.get_put hb] at hc;rw [hsz]
  by_cases e : c = b
  ·subst e; exact k.lt _ o hb (O.real_not hr)
  ·rw [if_neg e] at hc; exact k.lt _ x hc hg
 ·rintro c hc ⟨d, x, hd, h1, h2, rfl⟩;rw [H.get_put hb] at hd
  by_cases e : d = b
  ·subst e; exact ⟨d, o, hb, hr, h2, rfl⟩
  ·rw [if_neg e] at hd; exact ⟨d, x, hd, h1, h2, rfl⟩
 ·intro c hc hw;exact hoth c fun e => hw ⟨b, o, hb, hr, hfl, e.symm⟩
theorem Step.moveObj (k : HR P ι h w) {b : Nat} {o o' : O} (hb : h.get b = some o) (hr : o.real = true) (hm : h.may b = true) (sh lim : Nat) (caps : Array Value) {w' : World} (hsz : w'.heap.size = w.heap.size) (hos : w'.os = w.os) (htp : w'.tape = w.tape) (hout : w'.output = w.output)
  (hoth : ∀ g, g ≠ ι.blk b → w'.heap[g]? = w.heap[g]?) (hr' : o'.real = true) (hn : ORel P (ι.add h.next (ι.blk b) sh lim caps) h.next w' o') :
  Step P ι h w (ι.add h.next (ι.blk b) sh lim caps) ((h.kill b).alloc o') w' := by
 have hfl := (H.may_iff hm).1;have hid := k.hid h.next (Nat.le_refl _);have hid' : hidden (h.kill b).hid (h.kill b).next = false := hid;have hext : Ext ι (ι.add h.next (ι.blk b) sh lim caps) := Inj.add_ext k.fresh;have hbn : b ≠ h.next := fun e => by have := k.dom b (k.obj b o hb).1; omega
 have get : ∀ c x, ((h.kill b).alloc o').get c = some x → (c = h.next ∧ x = o') ∨ (c ≠ h.next ∧ c ≠ b ∧ h.get c = some x) := by
  intro c x hc;rw [H.get_alloc _ _ _ hid', H.get_kill] at hc
  by_cases e : c = h.next
  ·rw [if_pos (show c = (h.kill b).next from e)] at hc; cases hc; exact .inl ⟨e, rfl⟩
  ·rw [if_neg (show ¬ c = (h.kill b).next from e)] at hc
   by_cases e' : c = b
   ·rw [if_pos e'] at hc; cases hc
   ·rw [if_neg e'] at hc; exact .inr ⟨e, e', hc⟩
 refine ⟨hext, ⟨?_, ?_, ?_, ?_, ?_, fun b hb => k.frz b (Nat.le_of_succ_le hb), k.kn⟩, by omega, hos, htp, hout, rfl, rfl, Nat.le_succ _, fun b hb => hb.elim (fun e => .inr (Nat.le_of_eq e.symm)) .inl,
  fun c x hn hc => by
   rcases get c x hc with ⟨e, _⟩ | ⟨_, _, hc⟩
   ·omega
   ·exact ⟨x, hc, rfl, rfl⟩,
  fun c x hn hc => by
   rcases get c x hc with ⟨_, rfl⟩ | ⟨_, _, hc⟩
   ·exact .inl hr'
   ·exact absurd (k.dom c (k.obj c x hc).1) (by omega), ?_, ?_, rfl, rfl⟩
 ·rintro c (rfl | hc)
  ·exact Nat.lt_succ_self _
  ·exact Nat.lt_succ_of_lt (k.dom c hc)
 ·intro c x hc;rcases get c x hc with ⟨rfl, rfl⟩ | ⟨e, e', hc⟩
  ·exact ⟨.inl rfl, hn⟩
  ·obtain ⟨hd, hR⟩ := k.obj c x hc;exact ⟨.inr hd, ORel.ext hext hd rfl (hR.keep fun hg => hoth _ fun q => k.inj b c o x hb hc hr hg (Ne.symm e') q.symm)⟩
 ·intro c c' x x' hc hc' h1 h2 hne;rcases get c x hc with ⟨e, _⟩ | ⟨e, eb, hc⟩
  ·rcases get c' x' hc' with ⟨e', _⟩ | ⟨e', eb', hc'⟩
   ·exact absurd (e.trans e'.symm) hne
   ·simp only [Inj.add, if_pos e, if_neg e'];exact k.inj _ _ _ _ hb hc' hr h2 (Ne.symm eb')
  ·rcases get c' x' hc' with ⟨e', _⟩ | ⟨e', eb', hc'⟩
   ·simp only [Inj.add, if_neg e, if_pos e'];exact k.inj _ _ _ _ hc hb h1 (O.real_not hr) eb
   ·simp only [Inj.add, if_neg e, if_neg e'];exact k.inj _ _ _ _ hc hc' h1 h2 hne
 ·intro c hc;exact k.hid c (Nat.le_of_succ_le hc)
 ·intro c x hc hg;rw [hsz];rcases get c x hc with ⟨e, _⟩ | ⟨e, eb, hc⟩
  ·simp only [Inj.add, if_pos e]; exact k.lt _ o hb (O.real_not hr)
  ·simp only [Inj.add, if_neg e]; exact k.lt _ x hc hg
 ·rintro c hc ⟨d, x, hd, h1, h2, he⟩;rcases get d x hd with ⟨e, _⟩ | ⟨e, eb, hd⟩
  ·simp only [Inj.add, if_pos e] at he; subst he; exact ⟨b, o, hb, hr, hfl, rfl⟩
  ·simp only [Inj.add, if_neg e] at he; exact ⟨d, x, hd, h1, h2, he⟩
 ·intro c hc hw;exact hoth c fun e => hw ⟨b, o, hb, hr, hfl, e.symm⟩
end
end Go.Ai
namespace Go.Ai
section
variable {P : Program} {ι : Inj} {h : H} {w : World}
theorem run_und {t : TypeId} {d : TypeDesc} (ht : P.underlying t = some d) (w : World) : (underlying t).run P w = .ok d w := by
 simp [underlying, ht]
theorem run_info {t : TypeId} {i : TypeInfo} (hi : P.info? t = some i) (w : World) : (typeInfo t).run P w = .ok i w := by
 simp [typeInfo, hi]
theorem sizeB_info {t : TypeId} {n : Nat} (hs : sizeB P t = some n) : ∃ i, P.info? t = some i ∧ i.size = n := by
 unfold sizeB at hs;split at hs
 ·rename_i i hi; simp at hs; exact ⟨i, hi, hs⟩
 ·simp at hs
theorem run_size {t : TypeId} {n : Nat} (hs : sizeB P t = some n) (w : World) : (sizeOf t).run P w = .ok n w := by
 obtain ⟨i, hi, rfl⟩ := sizeB_info hs;simp [sizeOf, run_info hi]
theorem run_agg {t : TypeId} {b : Bool} (ha : aggB P t = some b) (w : World) : (isAgg t).run P w = .ok b w := by
 unfold aggB at ha;unfold isAgg
 cases hu : P.underlying t with
 | none => rw [hu] at ha; simp at ha
 | some d =>
  rw [hu] at ha;rw [Sem.run_bind, run_und hu];cases d <;> simp at ha <;> subst ha <;> rfl
theorem run_zero {t : TypeId} {z : V} (hz : zeroB P t = some z) : ∃ v, (∀ w, (zeroValue t).run P w = .ok v w) ∧ ∀ ι, VR ι z v := by
 unfold zeroB at hz;split at hz
 ·rename_i i hi;split at hz
  ·rename_i v hv;exact ⟨v, fun w => by simp [zeroValue, run_info hi, hv], fun ι => V.ofVal_rel hz⟩
  ·simp at hz
 ·simp at hz
theorem ofVal_isTup {v : Value} {z : V} (h : V.ofVal v = some z) : z.isTup = false := by
 unfold V.ofVal at h;split at h
 ·split at h
  ·simp at h; subst h; rfl
  ·simp at h
 ·split at h
  ·simp at h; subst h; rfl
  ·simp at h
theorem zeroB_isTup {t : TypeId} {z : V} (hz : zeroB P t = some z) : z.isTup = false := by
 unfold zeroB at hz;split at hz
 ·split at hz
  ·exact ofVal_isTup hz
  ·simp at hz
 ·simp at hz
def TR (ι : Inj) (T0 : Sl) (tmps : Array Value) : Prop := ∀ t x, T0.get t = some x → VR ι x (tmps.getD t undef)
theorem TR.ext {ι ι' : Inj} (e : Ext ι ι') {T0 : Sl} {tmps : Array Value} (k : TR ι T0 tmps) : TR ι' T0 tmps := fun t x hx => (k t x hx).ext e
theorem ev_rel {T0 : Sl} {a : Act} (k : TR ι T0 a.tmps) {x : Operand} {v : V} (hv : ev T0 x = some v) : VR ι v (a.eval x) := by
 cases x with
 | tmp t => exact k t v hv
 | const c => exact V.ofVal_rel hv
 | global g => simp [ev] at hv
 | func f => simp [ev] at hv; subst hv; rfl
theorem evs_rel {T0 : Sl} {a : Act} (k : TR ι T0 a.tmps) {xs : List Operand} {vs : List V} (hv : evs T0 xs = some vs) : All2 (VR ι) vs (xs.map a.eval) := by
 induction xs generalizing vs with
 | nil => simp [evs] at hv; subst hv; exact .nil
 | cons x xs ih =>
  simp only [evs] at hv
  cases h1 : ev T0 x with
  | none => simp [h1] at hv
  | some v =>
   cases h2 : evs T0 xs with
   | none => simp [h1, h2] at hv
   | some r => simp [h1, h2] at hv; subst hv; exact .cons (ev_rel k h1) (ih h2)
theorem evc_rel {T0 : Sl} {a : Act} (k : TR ι T0 a.tmps) {x : Operand} {v : Value} (hv : evc T0 x = some v) : a.eval x = v := by
 unfold evc at hv;split at hv
 ·rename_i y hy; exact (ev_rel k hy).conc hv
 ·simp at hv
theorem allConc_rel {T0 : Sl} {a : Act} (k : TR ι T0 a.tmps) {xs : List Operand} (hv : allConc T0 xs = true) : ∀ x ∈ xs, (evc T0 x).getD undef = a.eval x := by
 induction xs with
 | nil => intro x hx; cases hx
 | cons y ys ih =>
  simp only [allConc] at hv
  cases h1 : evc T0 y with
  | none => simp [h1] at hv
  | some v =>
   simp [h1] at hv;intro x hx
   cases hx with
   | head => rw [h1]; exact (evc_rel k h1).symm
   | tail _ hx => exact ih hv x hx
theorem prun_run {α : Type} (s : Sem α) {a : α} (hp : prun P s = some a) (w : World) : s.run P w = .ok a w := by
 induction s with
 | pure b => simp [prun] at hp; subst hp; rfl
 | program k ih => simp only [prun] at hp; exact ih P hp
 | mark m k ih => simp only [prun] at hp; exact ih hp
 | _ => simp [prun] at hp
def Sim1 (P : Program) (ι : Inj) (h : H) (w : World) (x : R) (r : Result Next) : Prop := match x with
 | .val v h' => ∃ ι' v' w', (r = .ok (.value v') w' ∨ (r = .ok .skip w' ∧ v' = undef)) ∧ VR ι' v v' ∧ Step P ι h w ι' h' w'
 | .enter f args h' => h' = h ∧ ∃ args', (HasBody P f → r = .ok (.enter f args'.toArray) w) ∧ All2 (VR ι) args args'
def SimV (P : Program) (ι : Inj) (h : H) (w : World) (x : R) (s : Sem Value) : Prop := ∃ v h', x = .val v h' ∧ ∃ ι' v' w', s.run P w = .ok v' w' ∧ VR ι' v v' ∧ Step P ι h w ι' h' w'
def SimU (P : Program) (ι : Inj) (h : H) (w : World) (x : R) (s : Sem Unit) : Prop := ∃ h', x = .val (.tup []) h' ∧ ∃ ι' w', s.run P w = .ok () w' ∧ Step P ι h w ι' h' w'
theorem SimV.one {x : R} {s : Sem Value} (k : SimV P ι h w x s) : Sim1 P ι h w x ((do pure (.value (← s)) : Sem Next).run P w) := by
 obtain ⟨v, h', rfl, ι', v', w', hr, hv, hs⟩ := k;exact ⟨ι', v', w', .inl (by simp [hr]), hv, hs⟩
theorem VR.undef_ {ι : Inj} : VR ι (.tup []) undef := ⟨#[], rfl, .nil⟩
theorem SimU.one {x : R} {s : Sem Unit} (k : SimU P ι h w x s) : Sim1 P ι h w x ((do s; pure .skip : Sem Next).run P w) := by
 obtain ⟨h', rfl, ι', w', hr, hs⟩ := k;exact ⟨ι', undef, w', .inr ⟨by simp [hr], rfl⟩, VR.undef_, hs⟩
theorem SimV.same (k : HR P ι h w) {v : V} {v' : Value} (hv : VR ι v v') {s : Sem Value} (hr : s.run P w = .ok v' w) : SimV P ι h w (.val v h) s := ⟨v, h, rfl, ι, v', w, hr, hv, .refl k⟩
theorem Sim1.same (k : HR P ι h w) {v : V} {v' : Value} (hv : VR ι v v') {r : Result Next} (hr : r = .ok (.value v') w) : Sim1 P ι h w (.val v h) r := ⟨ι, v', w, .inl hr, hv, .refl k⟩
theorem pureOp_sim {T0 : Sl} {a : Act} (k : HR P ι h w) (kt : TR ι T0 a.tmps) {o : Oper} {x : R} (hs : ∀ cs b, o.op ≠ .select cs b) (hx : pureOp P T0 h o = some x) : Sim1 P ι h w x ((execOp a.eval o).run P w) := by
 unfold pureOp at hx
 cases hc : allConc T0 o.op.operands.toList with
 | false => simp [hc] at hx
 | true =>
  simp only [hc, cond_true] at hx;have he : execOp a.eval o = execOp (fun x => (evc T0 x).getD undef) o := execOp_congr o hs fun y hy => (allConc_rel kt hc y (by simpa using hy)).symm
  split at hx
  ·rename_i v hp;split at hx
   ·rename_i y hy;cases hx;refine Sim1.same k (V.ofVal_rel hy) ?_;rw [he]; exact prun_run _ hp w
   ·simp at hx
  ·simp at hx
theorem add_none (b o j : Nat) : (⟨b, o, none⟩ : Addr).add j = ⟨b, o + j, none⟩ := by unfold Addr.add; split <;> simp_all
theorem O.cell_rel {b : Nat} {o : O} (hR : ORel P ι b w o) {j : Nat} {x : S} (hx : o.cell j = some x) : ∃ v, w.cell? ⟨ι.blk b, ι.sh b + j, none⟩ = some v ∧ SR ι x v := by
 cases o with
 | cells e cs n =>
  obtain ⟨c, h1, _, _, h5, _⟩ := hR;simp only [O.cell] at hx
  cases hb : Nat.blt j n with
  | false => simp [hb] at hx
  | true =>
   simp [hb] at hx;obtain ⟨x', v, p, q, r⟩ := h5 j (by simpa [Nat.blt_eq] using hb);rw [hx] at p; cases p;exact ⟨v, by rw [cell_of_row w _ _ c e (0, 0) h1]; exact q, r⟩
 | ro cs n =>
  simp only [O.cell] at hx
  cases hb : Nat.blt j n with
  | false => simp [hb] at hx
  | true =>
   simp [hb] at hx;obtain ⟨x', v, p, q, r⟩ := hR.1 j (by simpa [Nat.blt_eq] using hb);rw [hx] at p; cases p;exact ⟨v, q, r⟩
 | map es => simp [O.cell] at hx
 | ghost vs => simp [O.cell] at hx
theorem O.row_rel {b : Nat} {o : O} (hR : ORel P ι b w o) : ∀ (n j : Nat) (xs : List S), o.row n j = some xs →
  ∃ vs : List Value, vs.length = n ∧ All2 (SR ι) xs vs ∧ ∀ i v, vs[i]? = some v → w.cell? ⟨ι.blk b, ι.sh b + j + i, none⟩ = some v
 | 0, j, xs, hx => by simp [O.row] at hx; subst hx; exact ⟨[], rfl, .nil, by simp⟩
 | n + 1, j, xs, hx => by
  simp only [O.row] at hx
  cases h1 : o.cell j with
  | none => simp [h1] at hx
  | some x =>
   cases h2 : o.row n (j + 1) with
   | none => simp [h1, h2] at hx
   | some r =>
    simp [h1, h2] at hx; subst hx;obtain ⟨v, hv, hs⟩ := O.cell_rel hR h1;obtain ⟨vs, e1, e2, e3⟩ := O.row_rel hR n (j + 1) r h2;refine ⟨v :: vs, by simp [e1], .cons hs e2, fun i u hu => ?_⟩
    cases i with
    | zero => simp at hu; subst hu; exact hv
    | succ i => have := e3 i u (by simpa using hu); rwa [show ι.sh b + (j + 1) + i = ι.sh b + j + (i + 1) by omega] at this
theorem row_rel (k : HR P ι h w) {b o n : Nat} {xs : List S} (hx : h.row b o n = some xs) :
  ι.dom b ∧ ∃ vs : List Value, vs.length = n ∧ All2 (SR ι) xs vs ∧ ∀ i v, vs[i]? = some v → w.cell? ((⟨ι.blk b, ι.sh b + o, none⟩ : Addr).add i) = some v := by
 unfold H.row at hx;split at hx
 ·rename_i x hg;obtain ⟨hd, hR⟩ := k.obj b x hg;obtain ⟨vs, e1, e2, e3⟩ := O.row_rel hR n o xs hx;exact ⟨hd, vs, e1, e2, fun i v hv => by rw [add_none]; exact e3 i v hv⟩
 ·simp at hx
theorem doLoad_rel (k : HR P ι h w) {t : TypeId} {x : Option V} {v : Value} {r : R} (hv : ∀ y, x = some y → VR ι y v) (hx : doLoad P h t x = some r) : ∃ y u, r = .val y h ∧ (Instr.loadAt t v).run P w = .ok u w ∧ VR ι y u := by
 unfold doLoad at hx;split at hx
 ·rename_i b o;have hp := hv _ rfl;obtain ⟨hd, rfl⟩ := hp;split at hx
  ·rename_i n ha hs;split at hx
   ·rename_i xs hrow;cases hx;obtain ⟨_, vs, e1, e2, e3⟩ := row_rel k hrow;refine ⟨.agg xs, .agg vs.toArray, rfl, ?_, ⟨_, rfl, by simpa using e2⟩⟩;have hl := run_loadCells_list (P := P) w _ vs e3;rw [e1] at hl;simp [Instr.loadAt, Instr.sureAddr, loadVar, run_agg ha, run_size hs, hl]
   ·simp at hx
  ·rename_i ha hs;split at hx
   ·rename_i y hrow;cases hx;obtain ⟨_, vs, e1, e2, e3⟩ := row_rel k hrow
    cases e2 with
    | @cons _ u _ m hu ht =>
     refine ⟨.one _, u, rfl, ?_, hu⟩;have := e3 0 u rfl;rw [add_none, Nat.add_zero] at this;simp [Instr.loadAt, Instr.sureAddr, loadVar, run_agg ha, this]
   ·simp at hx
  ·simp at hx
 ·simp at hx
theorem doLoad_sim (k : HR P ι h w) {t : TypeId} {x : Option V} {v : Value} {r : R} (hv : ∀ y, x = some y → VR ι y v) (hx : doLoad P h t x = some r) : SimV P ι h w r (Instr.loadAt t v) := by
 obtain ⟨y, u, rfl, h1, h2⟩ := doLoad_rel k hv hx;exact SimV.same k h2 h1
theorem doMove_sim (k : HR P ι h w) {x : Option V} {v : Value} {r : R} (hv : ∀ y, x = some y → VR ι y v) (hx : doMove h x = some r) : SimV P ι h w r (pure v) := by
 unfold doMove at hx;split at hx
 ·cases hx; exact SimV.same k (hv _ rfl) rfl
 ·simp at hx
theorem doNilCheck_sim (k : HR P ι h w) {x : Option V} {v : Value} {r : R} (hv : ∀ y, x = some y → VR ι y v) (hx : doNilCheck h x = some r) {o : Oper} {op : Operand} {ρ : Operand → Value} (ho : o.op = .nilCheck op) (hρ : ρ op = v) : Sim1 P ι h w r ((execOp ρ o).run P w) := by
 unfold doNilCheck at hx;split at hx
 ·cases hx;obtain ⟨hd, rfl⟩ := hv _ rfl;exact Sim1.same k (v := .one (.p _ _)) (v' := .pointer (some ⟨ι.blk _, ι.sh _ + _, none⟩)) ⟨hd, rfl⟩ (by simp only [execOp, ho, hρ]; rfl)
 ·cases hx;have e : v = _ := hv _ rfl;subst e;exact Sim1.same k (v := .one (.fn0 _)) (v' := .func (.func _) #[] #[]) rfl (by simp only [execOp, ho, hρ]; rfl)
 ·cases hx;obtain ⟨hd, rfl⟩ := hv _ rfl;exact Sim1.same k (v := .one (.fn _ _)) (v' := .func (.func _) #[] (ι.caps _)) ⟨hd, rfl⟩ (by simp only [execOp, ho, hρ]; rfl)
 ·simp at hx
theorem doFieldAddr_sim (k : HR P ι h w) {s : TypeId} {f : Nat} {x : Option V} {v : Value} {r : R} (hv : ∀ y, x = some y → VR ι y v) (hx : doFieldAddr P h s f x = some r) : SimV P ι h w r (Instr.fieldAt s v f) := by
 unfold doFieldAddr at hx;split at hx
 ·rename_i b o;obtain ⟨hd, rfl⟩ := hv _ rfl;split at hx
  ·rename_i fields hu;split at hx
   ·rename_i fd hf;split at hx
    ·rename_i n hs;rw [ptrR_eq] at hx; cases hx;refine SimV.same k (v := .one (.p _ _)) (v' := .pointer (some ⟨ι.blk b, ι.sh b + (o + fd.offset), none⟩)) ⟨hd, rfl⟩ ?_;simp [Instr.fieldAt, run_und hu, hf, Instr.sureAddr, fieldPlace, run_size hs, add_none, Nat.add_assoc]
    ·simp at hx
   ·simp at hx
  ·simp at hx
 ·simp at hx
theorem inRange_some {i : Int} {n j : Nat} (hi : inRange i n = some j) : i = (j : Int) ∧ j < n := by
 unfold inRange at hi;split at hi
 ·rename_i m
  cases hb : Nat.blt m n with
  | false => simp [hb] at hi
  | true => simp [hb] at hi; subst hi; exact ⟨rfl, by simpa [Nat.blt_eq] using hb⟩
 ·simp at hi
theorem doIndexAddr_sim (k : HR P ι h w) {t : TypeId} {x y : Option V} {v u : Value} {r : R} (hv : ∀ z, x = some z → VR ι z v) (hu : ∀ z, y = some z → VR ι z u) (hx : doIndexAddr P h t x y = some r) : SimV P ι h w r (Instr.indexAt t v u) := by
 unfold doIndexAddr at hx;split at hx
 ·rename_i b o len cap sz ex ki i;obtain ⟨hd, _, a, c, rfl, e1, e2, e3, _⟩ := hv _ rfl;have e : u = _ := hu _ rfl;subst e;split at hx
  ·rename_i elem hel;split at hx
   ·rename_i size j hs hi;rw [ptrR_eq] at hx; cases hx;obtain ⟨rfl, hj⟩ := inRange_some hi;refine SimV.same k (v := .one (.p _ _)) (v' := .pointer (some ⟨ι.blk b, ι.sh b + (o + j * size), none⟩)) ⟨hd, rfl⟩ ?_
    have ea : a = ⟨ι.blk b, ι.sh b + o, none⟩ := by
     cases a with
     | mk bb oo ss =>
      simp only at e1 e2 e3;subst e1; subst e2;rcases e3 with e3 | ⟨e3, _⟩
      ·rw [e3]
      ·omega
    subst ea;simp [Instr.indexAt, asIntOf, run_und hel, run_size hs, add_none, Nat.add_assoc, hj]
   ·simp at hx
  ·simp at hx
 ·rename_i b o ki i;obtain ⟨hd, rfl⟩ := hv _ rfl;have e : u = _ := hu _ rfl;subst e;split at hx
  ·rename_i len elem hel;split at hx
   ·rename_i size j hs hi;rw [ptrR_eq] at hx; cases hx;obtain ⟨rfl, hj⟩ := inRange_some hi;refine SimV.same k (v := .one (.p _ _)) (v' := .pointer (some ⟨ι.blk b, ι.sh b + (o + j * size), none⟩)) ⟨hd, rfl⟩ ?_;simp [Instr.indexAt, asIntOf, run_und hel, run_size hs, Instr.sureAddr, add_none, Nat.add_assoc, hj]
   ·simp at hx
  ·simp at hx
 ·rename_i b o m e ki i;obtain ⟨hd, _, a, c, n, rfl, e1, e2, e3, _, hmn⟩ := hv _ rfl;have e : u = _ := hu _ rfl;subst e;split at hx
  ·rename_i elem hel;split at hx
   ·rename_i size j hs hi;rw [ptrR_eq] at hx; cases hx;obtain ⟨rfl, hj⟩ := inRange_some hi;refine SimV.same k (v := .one (.p _ _)) (v' := .pointer (some ⟨ι.blk b, ι.sh b + (o + j * size), none⟩)) ⟨hd, rfl⟩ ?_
    have ea : a = ⟨ι.blk b, ι.sh b + o, none⟩ := by
     cases a with
     | mk bb oo ss =>
      simp only at e1 e2 e3;subst e1; subst e2; subst e3; rfl
    subst ea;have hj2 : j < n := by omega
    simp [Instr.indexAt, asIntOf, run_und hel, run_size hs, add_none, Nat.add_assoc, hj2]
   ·simp at hx
  ·simp at hx
 ·simp at hx
theorem doField_sim (k : HR P ι h w) {t : TypeId} {f : Nat} {x : Option V} {v : Value} {r : R} (hv : ∀ y, x = some y → VR ι y v) (hx : doField P h t f x = some r) : SimV P ι h w r (Instr.field t v f) := by
 unfold doField at hx;split at hx
 ·rename_i xs;obtain ⟨cs, rfl, hc⟩ := hv _ rfl;split at hx
  ·rename_i fields hu;split at hx
   ·rename_i fd hf;split at hx
    ·rename_i n ha hs;cases hx;refine SimV.same k (v := .agg _) (v' := .agg (cs.extract fd.offset (fd.offset + n))) ⟨_, rfl, ?_⟩ ?_
     ·have := (hc.drop fd.offset).take n;simpa [List.take_drop, Nat.add_comm] using this
     ·simp [Instr.field, run_und hu, hf, asAgg, part, run_agg ha, run_size hs]
    ·rename_i ha hs;split at hx
     ·rename_i y hy;cases hx;obtain ⟨u, hu', hr⟩ := hc.get _ _ hy;refine SimV.same k (v := .one _) (v' := u) hr ?_;have : cs[fd.offset]? = some u := by simpa using hu'
      simp [Instr.field, run_und hu, hf, asAgg, part, run_agg ha, this]
     ·simp at hx
    ·simp at hx
   ·simp at hx
  ·simp at hx
 ·simp at hx
theorem doExtract_sim (k : HR P ι h w) {ix : Nat} {x : Option V} {v : Value} {r : R} (hv : ∀ y, x = some y → VR ι y v) (hx : doExtract h ix x = some r) : SimV P ι h w r (Instr.extract v ix) := by
 unfold doExtract at hx;split at hx
 ·rename_i ps;obtain ⟨vs, rfl, hc⟩ := hv _ rfl;split at hx
  ·rename_i p hp;split at hx
   ·rename_i y hy;cases hx;obtain ⟨u, hu, hr⟩ := hc.get _ _ hp;refine SimV.same k (ofPart_rel hr hy) ?_;have : vs[ix]? = some u := by simpa using hu
    simp [Instr.extract, this]
   ·simp at hx
  ·simp at hx
 ·simp at hx
end
end Go.Ai
