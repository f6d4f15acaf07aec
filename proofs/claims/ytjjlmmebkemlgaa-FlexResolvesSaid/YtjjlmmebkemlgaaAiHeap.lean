/-
A step of the heap is a step of the world: a new block, a block written, a block that moves on.
-/
import Derived.Test.YtjjlmmebkemlgaaAiRel
import Derived.Laws.CopyRow
import Derived.Laws.Append
set_option linter.unusedVariables false
set_option linter.unusedSimpArgs false
namespace Go.Ai

theorem H.get_some {h : H} {b : Nat} {o : O} (k : h.get b = some o) : hidden h.hid b = false ∧ h.tr.get b = some o := by
  unfold H.get at k
  cases e : hidden h.hid b with
  | true => rw [e] at k; exact absurd k (by simp)
  | false => rw [e] at k; exact ⟨rfl, k⟩
theorem H.get_of {h : H} {b : Nat} {o : O} (k : hidden h.hid b = false) (k2 : h.tr.get b = some o) : h.get b = some o := by
  unfold H.get; rw [k, k2]; rfl
theorem H.may_iff {h : H} {b : Nat} (k : h.may b = true) : (h.floor ≤ b ∧ hidden h.frz b = false) ∧ hidden h.hid b = false := by
  simp only [H.may, Bool.and_eq_true, Bool.not_eq_true'] at k
  exact ⟨⟨Nat.le_of_ble_eq_true k.1.1, k.2⟩, k.1.2⟩
theorem H.get_put {h : H} {b c : Nat} {o o' : O} (k : h.get b = some o) : (h.put b o').get c = if c = b then some o' else h.get c := by
  obtain ⟨k1, _⟩ := H.get_some k
  show cond (hidden h.hid c) none ((h.tr.set b o').get c) = _
  rw [T.get_set]
  by_cases e : c = b
  · subst e; rw [k1, if_pos rfl, if_pos rfl]; rfl
  · rw [if_neg e, if_neg e]; rfl
theorem H.get_kill {h : H} {b c : Nat} : (h.kill b).get c = if c = b then none else h.get c := by
  show cond (hidden h.hid c) none ((h.tr.upd b none).get c) = _
  rw [T.get_upd]
  by_cases e : c = b
  · rw [if_pos e, if_pos e]; cases hidden h.hid c <;> rfl
  · rw [if_neg e, if_neg e]; rfl

def Inj.add (ι : Inj) (b blk sh lim : Nat) (caps : Array Value) : Inj where
  dom x := x = b ∨ ι.dom x
  blk x := if x = b then blk else ι.blk x
  sh x := if x = b then sh else ι.sh x
  lim x := if x = b then lim else ι.lim x
  caps x := if x = b then caps else ι.caps x
  rest x := if x = b then fun _ => none else ι.rest x
  env := ι.env
theorem Inj.add_ext {ι : Inj} {b blk sh lim : Nat} {caps : Array Value} (h : ¬ ι.dom b) : Ext ι (ι.add b blk sh lim caps) :=
  ⟨fun _ h => .inr h, fun x hx => by
    have e : x ≠ b := fun e => h (e ▸ hx)
    exact ⟨by simp [Inj.add, e], by simp [Inj.add, e], by simp [Inj.add, e], by simp [Inj.add, e], by simp [Inj.add, e]⟩, rfl⟩
section
variable {P : Program} {ι : Inj} {h : H} {w : World}
theorem HR.fresh (k : HR P ι h w) : ¬ ι.dom h.next := fun e => Nat.lt_irrefl _ (k.dom _ e)
theorem ORel.oldWorld {w w' : World} {b : Nat} {o : O} (hg : o.ghostly = false → ∀ x, w.heap[ι.blk b]? = some x → w'.heap[ι.blk b]? = some x) (k : ORel P ι b w o) : ORel P ι b w' o := by
  cases o with
  | cells t cs n => obtain ⟨c, h1, r⟩ := k; exact ⟨c, hg rfl _ h1, r⟩
  | map es => obtain ⟨c, cl, h1, r⟩ := k; exact ⟨c, cl, hg rfl _ h1, r⟩
  | ro cs n =>
    intro j hj
    obtain ⟨x, v, p, q, r⟩ := k j hj
    refine ⟨x, v, p, ?_, r⟩
    unfold World.cell? at q ⊢
    cases hh : w.heap[ι.blk b]? with
    | none => simp [hh] at q
    | some y => rw [hg rfl y hh]; simpa [hh] using q
  | ghost vs => exact k
theorem ORel.keep {w' : World} {b : Nat} {o : O} (k : ORel P ι b w o) (e : o.ghostly = false → w'.heap[ι.blk b]? = w.heap[ι.blk b]?) : ORel P ι b w' o :=
  ORel.oldWorld (fun hg x hx => by rw [e hg]; exact hx) k

/-- A new block. -/
theorem Step.newObj (k : HR P ι h w) (o : O) (obj : Obj) (sh lim : Nat) (caps : Array Value)
    (hn : ORel P (ι.add h.next w.heap.size sh lim caps) h.next (w.alloc obj) o) :
    Step P ι h w (ι.add h.next w.heap.size sh lim caps) (h.alloc o) (w.alloc obj) := by
  have hid := k.hid h.next (Nat.le_refl _)
  have hext : Ext ι (ι.add h.next w.heap.size sh lim caps) := Inj.add_ext k.fresh
  have hold : ∀ b o', b ≠ h.next → h.get b = some o' → ι.dom b ∧ (o'.real = true → ι.blk b < w.heap.size) := fun b o' _ hb => ⟨(k.obj b o' hb).1, fun hr => k.lt b o' hb (by cases o' <;> first | rfl | simp [O.real] at hr)⟩
  refine ⟨hext, ⟨?_, ?_, ?_, ?_, ?_, fun b hb => k.frz b (Nat.le_of_succ_le hb), k.kn⟩, by simp, rfl, rfl, rfl, rfl, rfl, Nat.le_succ _, fun b hb => hb.elim (fun e => .inr (Nat.le_of_eq e.symm)) .inl,
    fun b o' hb hg => ⟨o', by rw [H.get_alloc _ _ _ hid, if_neg (by omega)] at hg; exact hg, rfl, rfl⟩,
    fun b o' hb hg => by
      rw [H.get_alloc _ _ _ hid] at hg
      by_cases e : b = h.next
      · exact .inr (.inr (by simp [Inj.add, e]))
      · rw [if_neg e] at hg; exact absurd (k.dom b (k.obj b o' hg).1) (by omega), ?_, ?_, rfl, rfl⟩
  · rintro b (rfl | hb)
    · exact Nat.lt_succ_self _
    · exact Nat.lt_succ_of_lt (k.dom b hb)
  · intro b o' hb
    rw [H.get_alloc _ _ _ hid] at hb
    by_cases e : b = h.next
    · rw [if_pos e] at hb; cases hb; subst e; exact ⟨.inl rfl, hn⟩
    · rw [if_neg e] at hb
      obtain ⟨hd, hR⟩ := k.obj b o' hb
      refine ⟨.inr hd, ?_⟩
      have hR' : ORel P ι b (w.alloc obj) o' := ORel.oldWorld (fun hg x hx => by rw [heap_alloc_old w obj _ (Array.getElem?_eq_some_iff.1 hx).1]; exact hx) hR
      exact ORel.ext hext hd rfl hR'
  · intro b b' o1 o2 hb hb' h1 h2 hne
    rw [H.get_alloc _ _ _ hid] at hb hb'
    by_cases e : b = h.next
    · by_cases e' : b' = h.next
      · exact absurd (e.trans e'.symm) hne
      · rw [if_neg e'] at hb'
        have hd := (k.obj b' o2 hb').1
        simp only [Inj.add, if_pos e, if_neg e']
        intro he
        have := k.lt b' o2 hb' h2; omega
    · rw [if_neg e] at hb
      have hlt := k.lt b o1 hb (by cases o1 <;> first | rfl | simp [O.real] at h1)
      by_cases e' : b' = h.next
      · simp only [Inj.add, if_pos e', if_neg e]; omega
      · rw [if_neg e'] at hb'
        simp only [Inj.add, if_neg e, if_neg e']
        exact k.inj b b' o1 o2 hb hb' h1 h2 hne
  · intro b hb
    exact k.hid b (Nat.le_of_succ_le hb)
  · intro b o' hb hg
    rw [H.get_alloc _ _ _ hid] at hb
    by_cases e : b = h.next
    · simp only [Inj.add, if_pos e, World.size_alloc]; omega
    · rw [if_neg e] at hb
      simp only [Inj.add, if_neg e, World.size_alloc]
      exact Nat.lt_succ_of_lt (k.lt b o' hb hg)
  · rintro c hc ⟨b, o', hb, h1, h2, rfl⟩
    rw [H.get_alloc _ _ _ hid] at hb
    by_cases e : b = h.next
    · simp only [Inj.add, if_pos e] at hc; omega
    · rw [if_neg e] at hb
      simp only [Inj.add, if_neg e] at hc ⊢
      exact ⟨b, o', hb, h1, h2, rfl⟩
  · intro c hc _
    exact heap_alloc_old w obj c hc
/-- A new block that stands for no block of the world. -/
theorem Step.newGhost (k : HR P ι h w) (vs : List V) (caps : Array Value) (hn : All2 (VR ι) vs caps.toList) :
    Step P ι h w (ι.add h.next 0 0 0 caps) (h.alloc (.ghost vs)) w := by
  have hid := k.hid h.next (Nat.le_refl _)
  have hext : Ext ι (ι.add h.next 0 0 0 caps) := Inj.add_ext k.fresh
  refine ⟨hext, ⟨?_, ?_, ?_, ?_, ?_, fun b hb => k.frz b (Nat.le_of_succ_le hb), k.kn⟩, Nat.le_refl _, rfl, rfl, rfl, rfl, rfl, Nat.le_succ _, fun b hb => hb.elim (fun e => .inr (Nat.le_of_eq e.symm)) .inl,
    fun b o' hb hg => ⟨o', by rw [H.get_alloc _ _ _ hid, if_neg (by omega)] at hg; exact hg, rfl, rfl⟩,
    fun b o' hb hg => by
      rw [H.get_alloc _ _ _ hid] at hg
      by_cases e : b = h.next
      · rw [if_pos e] at hg; cases hg; exact .inr (.inl rfl)
      · rw [if_neg e] at hg; exact absurd (k.dom b (k.obj b o' hg).1) (by omega), ?_, fun _ _ _ => rfl, rfl, rfl⟩
  · rintro b (rfl | hb)
    · exact Nat.lt_succ_self _
    · exact Nat.lt_succ_of_lt (k.dom b hb)
  · intro b o' hb
    rw [H.get_alloc _ _ _ hid] at hb
    by_cases e : b = h.next
    · rw [if_pos e] at hb; cases hb; subst e
      refine ⟨.inl rfl, ?_⟩
      show All2 _ vs _
      simp only [Inj.add, if_true]
      exact VR.all hext hn
    · rw [if_neg e] at hb
      obtain ⟨hd, hR⟩ := k.obj b o' hb
      exact ⟨.inr hd, ORel.ext hext hd rfl hR⟩
  · intro b b' o1 o2 hb hb' h1 h2 hne
    rw [H.get_alloc _ _ _ hid] at hb hb'
    by_cases e : b = h.next
    · rw [if_pos e] at hb; cases hb; simp [O.real] at h1
    · rw [if_neg e] at hb
      by_cases e' : b' = h.next
      · rw [if_pos e'] at hb'; cases hb'; simp [O.ghostly] at h2
      · rw [if_neg e'] at hb'
        simp only [Inj.add, if_neg e, if_neg e']
        exact k.inj b b' o1 o2 hb hb' h1 h2 hne
  · intro b hb
    exact k.hid b (Nat.le_of_succ_le hb)
  · intro b o' hb hg
    rw [H.get_alloc _ _ _ hid] at hb
    by_cases e : b = h.next
    · rw [if_pos e] at hb; cases hb; simp [O.ghostly] at hg
    · rw [if_neg e] at hb
      simp only [Inj.add, if_neg e]
      exact k.lt b o' hb hg
  · rintro c hc ⟨b, o', hb, h1, h2, rfl⟩
    rw [H.get_alloc _ _ _ hid] at hb
    by_cases e : b = h.next
    · rw [if_pos e] at hb; cases hb; simp [O.real] at h1
    · rw [if_neg e] at hb
      simp only [Inj.add, if_neg e] at hc ⊢
      exact ⟨b, o', hb, h1, h2, rfl⟩
/-- What the program does above all that was there. -/
theorem Step.below (k : HR P ι h w) {w' : World} (b : RowKit.Below w.heap.size w w') : Step P ι h w ι h w' := by
  refine ⟨.refl ι, ⟨k.dom, fun c o hc => ⟨(k.obj c o hc).1, (k.obj c o hc).2.keep fun hg => b.block _ (k.lt c o hc hg)⟩, k.inj, k.hid, fun c o hc hg => Nat.lt_of_lt_of_le (k.lt c o hc hg) b.size, k.frz, k.kn⟩, b.size, b.os, b.tape, b.output, rfl, rfl, Nat.le_refl _, fun _ h => .inl h, fun c o _ h => ⟨o, h, rfl, rfl⟩, fun c o hb hg => absurd (k.dom c (k.obj c o hg).1) (by omega), fun _ _ h => h, fun c hc _ => b.block c hc, rfl, rfl⟩
theorem O.real_not {o : O} (h : o.real = true) : o.ghostly = false := by cases o <;> first | rfl | simp [O.real] at h
/-- A block written. -/
theorem Step.putObj (k : HR P ι h w) {b : Nat} {o o' : O} (hb : h.get b = some o) (hr : o.real = true) (hm : h.may b = true) {w' : World} (hsz : w'.heap.size = w.heap.size) (hos : w'.os = w.os) (htp : w'.tape = w.tape) (hout : w'.output = w.output)
    (hoth : ∀ g, g ≠ ι.blk b → w'.heap[g]? = w.heap[g]?) (hr' : o'.real = true) (hn : ORel P ι b w' o') : Step P ι h w ι (h.put b o') w' := by
  have hfl := (H.may_iff hm).1
  refine ⟨.refl ι, ⟨k.dom, ?_, ?_, k.hid, ?_, k.frz, k.kn⟩, by omega, hos, htp, hout, rfl, rfl, Nat.le_refl _, fun _ h => .inl h,
    fun c x _ hc => by
      rw [H.get_put hb] at hc
      by_cases e : c = b
      · rw [if_pos e] at hc; cases hc; exact ⟨o, by rw [e]; exact hb, by rw [hr, hr'], by rw [O.real_not hr, O.real_not hr']⟩
      · rw [if_neg e] at hc; exact ⟨x, hc, rfl, rfl⟩,
    fun c x hn hc => by
      rw [H.get_put hb] at hc
      by_cases e : c = b
      · exact absurd (k.dom b (k.obj b o hb).1) (by omega)
      · rw [if_neg e] at hc; exact absurd (k.dom c (k.obj c x hc).1) (by omega), ?_, ?_, rfl, rfl⟩
  · intro c x hc
    rw [H.get_put hb] at hc
    by_cases e : c = b
    · rw [if_pos e] at hc; cases hc; subst e; exact ⟨(k.obj c o hb).1, hn⟩
    · rw [if_neg e] at hc
      obtain ⟨hd, hR⟩ := k.obj c x hc
      exact ⟨hd, hR.keep fun hg => hoth _ fun q => k.inj b c o x hb hc hr hg (Ne.symm e) q.symm⟩
  · intro c c' x x' hc hc' h1 h2 hne
    rw [H.get_put hb] at hc hc'
    by_cases e : c = b
    · by_cases e' : c' = b
      · exact absurd (e.trans e'.symm) hne
      · rw [if_neg e'] at hc'; subst e; exact k.inj _ _ _ _ hb hc' hr h2 hne
    · rw [if_neg e] at hc
      by_cases e' : c' = b
      · subst e'; exact k.inj _ _ _ _ hc hb h1 (O.real_not hr) hne
      · rw [if_neg e'] at hc'; exact k.inj _ _ _ _ hc hc' h1 h2 hne
  · intro c x hc hg
    rw [H.get_put hb] at hc
    rw [hsz]
    by_cases e : c = b
    · subst e; exact k.lt _ o hb (O.real_not hr)
    · rw [if_neg e] at hc; exact k.lt _ x hc hg
  · rintro c hc ⟨d, x, hd, h1, h2, rfl⟩
    rw [H.get_put hb] at hd
    by_cases e : d = b
    · subst e; exact ⟨d, o, hb, hr, h2, rfl⟩
    · rw [if_neg e] at hd; exact ⟨d, x, hd, h1, h2, rfl⟩
  · intro c hc hw
    exact hoth c fun e => hw ⟨b, o, hb, hr, hfl, e.symm⟩
/-- A block that goes on under a new number, in place. -/
theorem Step.moveObj (k : HR P ι h w) {b : Nat} {o o' : O} (hb : h.get b = some o) (hr : o.real = true) (hm : h.may b = true) (sh lim : Nat) (caps : Array Value) {w' : World} (hsz : w'.heap.size = w.heap.size) (hos : w'.os = w.os) (htp : w'.tape = w.tape) (hout : w'.output = w.output)
    (hoth : ∀ g, g ≠ ι.blk b → w'.heap[g]? = w.heap[g]?) (hr' : o'.real = true) (hn : ORel P (ι.add h.next (ι.blk b) sh lim caps) h.next w' o') :
    Step P ι h w (ι.add h.next (ι.blk b) sh lim caps) ((h.kill b).alloc o') w' := by
  have hfl := (H.may_iff hm).1
  have hid := k.hid h.next (Nat.le_refl _)
  have hid' : hidden (h.kill b).hid (h.kill b).next = false := hid
  have hext : Ext ι (ι.add h.next (ι.blk b) sh lim caps) := Inj.add_ext k.fresh
  have hbn : b ≠ h.next := fun e => by have := k.dom b (k.obj b o hb).1; omega
  have get : ∀ c x, ((h.kill b).alloc o').get c = some x → (c = h.next ∧ x = o') ∨ (c ≠ h.next ∧ c ≠ b ∧ h.get c = some x) := by
    intro c x hc
    rw [H.get_alloc _ _ _ hid', H.get_kill] at hc
    by_cases e : c = h.next
    · rw [if_pos (show c = (h.kill b).next from e)] at hc; cases hc; exact .inl ⟨e, rfl⟩
    · rw [if_neg (show ¬ c = (h.kill b).next from e)] at hc
      by_cases e' : c = b
      · rw [if_pos e'] at hc; cases hc
      · rw [if_neg e'] at hc; exact .inr ⟨e, e', hc⟩
  refine ⟨hext, ⟨?_, ?_, ?_, ?_, ?_, fun b hb => k.frz b (Nat.le_of_succ_le hb), k.kn⟩, by omega, hos, htp, hout, rfl, rfl, Nat.le_succ _, fun b hb => hb.elim (fun e => .inr (Nat.le_of_eq e.symm)) .inl,
    fun c x hn hc => by
      rcases get c x hc with ⟨e, _⟩ | ⟨_, _, hc⟩
      · omega
      · exact ⟨x, hc, rfl, rfl⟩,
    fun c x hn hc => by
      rcases get c x hc with ⟨_, rfl⟩ | ⟨_, _, hc⟩
      · exact .inl hr'
      · exact absurd (k.dom c (k.obj c x hc).1) (by omega), ?_, ?_, rfl, rfl⟩
  · rintro c (rfl | hc)
    · exact Nat.lt_succ_self _
    · exact Nat.lt_succ_of_lt (k.dom c hc)
  · intro c x hc
    rcases get c x hc with ⟨rfl, rfl⟩ | ⟨e, e', hc⟩
    · exact ⟨.inl rfl, hn⟩
    · obtain ⟨hd, hR⟩ := k.obj c x hc
      exact ⟨.inr hd, ORel.ext hext hd rfl (hR.keep fun hg => hoth _ fun q => k.inj b c o x hb hc hr hg (Ne.symm e') q.symm)⟩
  · intro c c' x x' hc hc' h1 h2 hne
    rcases get c x hc with ⟨e, _⟩ | ⟨e, eb, hc⟩
    · rcases get c' x' hc' with ⟨e', _⟩ | ⟨e', eb', hc'⟩
      · exact absurd (e.trans e'.symm) hne
      · simp only [Inj.add, if_pos e, if_neg e']
        exact k.inj _ _ _ _ hb hc' hr h2 (Ne.symm eb')
    · rcases get c' x' hc' with ⟨e', _⟩ | ⟨e', eb', hc'⟩
      · simp only [Inj.add, if_neg e, if_pos e']
        exact k.inj _ _ _ _ hc hb h1 (O.real_not hr) eb
      · simp only [Inj.add, if_neg e, if_neg e']
        exact k.inj _ _ _ _ hc hc' h1 h2 hne
  · intro c hc
    exact k.hid c (Nat.le_of_succ_le hc)
  · intro c x hc hg
    rw [hsz]
    rcases get c x hc with ⟨e, _⟩ | ⟨e, eb, hc⟩
    · simp only [Inj.add, if_pos e]; exact k.lt _ o hb (O.real_not hr)
    · simp only [Inj.add, if_neg e]; exact k.lt _ x hc hg
  · rintro c hc ⟨d, x, hd, h1, h2, he⟩
    rcases get d x hd with ⟨e, _⟩ | ⟨e, eb, hd⟩
    · simp only [Inj.add, if_pos e] at he; subst he; exact ⟨b, o, hb, hr, hfl, rfl⟩
    · simp only [Inj.add, if_neg e] at he; exact ⟨d, x, hd, h1, h2, he⟩
  · intro c hc hw
    exact hoth c fun e => hw ⟨b, o, hb, hr, hfl, e.symm⟩
end
end Go.Ai
