/-
LayoutWraps, part 35 of 48: FxLayO FxLayT.
-/
import Derived.Test.YthacbaagffpkoaaLw34
set_option linter.unusedVariables false
set_option linter.unusedSimpArgs false
set_option maxRecDepth 100000
set_option maxHeartbeats 0
namespace Go.Ai
open Go.Proofs
theorem IntsIn.blk {h : H} {sv : S} {sizes : List Int} {m : Nat} (k : IntsIn h m sv sizes) {q : Nat} (hq : S.blk sv = some q) : m ≤ q ∧ q < h.next := by
 rcases k with ⟨_, rfl⟩ | ⟨b, c, ex, rfl, h1, h2, _⟩
 ·cases hq
 ·cases hq; exact ⟨h1, h2⟩
theorem IntsIn.upB {h h1 : H} {sv : S} {sizes : List Int} {m : Nat} {p : Nat → Prop} (k : IntsIn h m sv sizes) (u : Up p h h1) (hp : ∀ q, S.blk sv = some q → p q) : IntsIn h1 m sv sizes := by
 have hn := u.next;rcases k with k | ⟨b, c, ex, rfl, h0, h1, h2⟩
 ·exact .inl k
 ·exact .inr ⟨b, c, ex, rfl, h0, by omega, fun i x hx => by rw [u.row (hp b rfl)]; exact h2 i x hx⟩
def Own (X : Nat → Prop) (x y : S) (po : Nat) (z : S := .sl0) : Nat → Prop := fun q => X q ∨ S.blk x = some q ∨ S.blk y = some q ∨ q = po ∨ S.blk z = some q
structure Gz where
 v : S
 e : Nat
 s : Nat
 cs : List S
def Gz.nil : Gz := ⟨.sl0, 3, 1, []⟩
structure HgtS (h0 h : H) (n0 wb mb : Nat) (X : Nat → Prop) (pf po bb bo : Nat) (B : BoxT) (f : Frm) (x y : S) (ro : List (S × List Int)) (l : List (GeoT × S)) (ns : List Int) (pe : Nat) (oc : List S) (z : Gz := Gz.nil) : Prop where
 fr : Fr h n0 wb mb (Own X x y po z.v) pf B bb bo f
 hX : ∀ q, X q → q < h0.next
 iv : ∀ p ∈ ro, IntsIn h (wb + 1) p.1 p.2
 co : Cells h po pe oc
 mo : po = pf ∨ h.may po = true
 lo : wb < po ∧ po < h0.next
 so : ∀ p ∈ ro, S.blk p.1 ≠ some po
 sx : ∀ p ∈ ro, ∀ q, S.blk p.1 = some q → S.blk x ≠ some q ∧ S.blk y ≠ some q
 lf : pf < h0.next
 gx : GList h (Al wb (Own X x y po z.v)) h0.next x l
 gy : Grown h y h0.next 3 1 (nums ns)
 xy : ∀ q, S.blk x = some q → S.blk y ≠ some q
 up : Up (fun q => q < h0.next ∧ q ≠ mb ∧ q ≠ po) h0 h
 ok : Ok h
 gz : Grown h z.v h0.next z.e z.s z.cs
 xz : ∀ q, S.blk x = some q → S.blk z.v ≠ some q
 yz : ∀ q, S.blk y = some q → S.blk z.v ≠ some q
section
variable {h0 h h1 : H} {n0 wb mb pf po bb bo pe : Nat} {X : Nat → Prop} {B : BoxT} {f : Frm} {x y : S} {ro : List (S × List Int)} {ns : List Int} {l : List (GeoT × S)} {oc : List S} {z : Gz}
theorem HgtS.step (k : HgtS h0 h n0 wb mb X pf po bb bo B f x y ro l ns pe oc z) {p : Nat → Prop} (u : Up p h h1) (hp : ∀ q, q < h.next → q ≠ mb → p q) (m : MapOk h1 n0 wb mb (Own X x y po z.v)) (ok : Ok h1) : HgtS h0 h1 n0 wb mb X pf po bb bo B f x y ro l ns pe oc z := by
 have p1 := k.lo;have p2 := k.lf;have p3 := k.up.next;have p4 := k.fr.map.lt;have p5 := k.fr.lt;refine ⟨k.fr.up u (fun q hq => hp q Om Om) m, k.hX, fun p hp' => (k.iv p hp').up u fun q h1 h2 => hp q h2 Om, u.cells (hp po Om Om) k.co, by rw [u.may]; exact k.mo, k.lo, k.so, k.sx, k.lf, k.gx.up u (fun q h1 h2 => hp q h2 (by have := (k.gx.grown.lt h1).1; omega)) (fun q h1 h2 => hp q h2 (by have := h1.1; omega)) (fun _ h _ => h), k.gy.up u fun q hq => hp q (k.gy.lt hq).2 (by have := (k.gy.lt hq).1; omega), k.xy, k.up.trans (u.mono fun q hq => hp q Om hq.2.1), ok, k.gz.up u (fun q hq => hp q (k.gz.lt hq).2 (by have := (k.gz.lt hq).1; omega)), k.xz, k.yz⟩
theorem HgtS.upLt (k : HgtS h0 h n0 wb mb X pf po bb bo B f x y ro l ns pe oc z) (u : Up (· < h.next) h h1) (ok : Ok h1) : HgtS h0 h1 n0 wb mb X pf po bb bo B f x y ro l ns pe oc z :=
 k.step u (fun q h1 _ => h1) (k.fr.map.up u) ok
theorem HgtS.lay (k : HgtS h0 h n0 wb mb X pf po bb bo B f x y ro l ns pe oc z) (u : Up (fun q => q < h.next ∧ q ≠ mb) h h1) (m : MapOk h1 n0 wb mb (Own X x y po z.v)) (ok : Ok h1) : HgtS h0 h1 n0 wb mb X pf po bb bo B f x y ro l ns pe oc z :=
 k.step u (fun q h1 h2 => ⟨h1, h2⟩) m ok
theorem HgtS.put (k : HgtS h0 h n0 wb mb X pf po bb bo B f x y ro l ns pe oc z) (hpf : po ≠ pf) {oc1 : List S} (u : Put h h1 po pe oc1) : HgtS h0 h1 n0 wb mb X pf po bb bo B f x y ro l ns pe oc1 z := by
 have p1 := k.lo;have p2 := k.lf;have p3 := k.up.next;have p4 := k.fr.map.lt;have p5 := k.fr.lt;have un := u.up.next;have m := k.fr.map.mono (h1 := h1) (X1 := Own X x y po z.v) un (fun q z hq _ hz => by rw [u.up.get (show q ≠ po from hq.elim (fun h => by omega) fun h e => h (.inr (.inr (.inr (.inl e)))))]; exact hz) (fun _ _ _ h => h) (by rw [u.up.may]; exact k.fr.map.may);exact ⟨k.fr.up u.up (fun q hq => by omega) m, k.hX, fun p hp' => (k.iv p hp').upB u.up (fun q hq e => k.so p hp' (by rw [← e]; exact hq)), u.cells, .inr u.may, k.lo, k.so, k.sx, k.lf, k.gx.up u.up (fun q h1 h2 => by have := (k.gx.grown.lt h1).1; omega) (fun q h1 h2 e => h1.2 (.inr (.inr (.inr (.inl e))))) (fun _ h _ => h), k.gy.up u.up fun q hq => by have := (k.gy.lt hq).1; omega, k.xy, k.up.trans (u.up.mono fun q hq => hq.2.2), u.ok k.ok, k.gz.up u.up (fun q hq => by have := (k.gz.lt hq).1; omega), k.xz, k.yz⟩
theorem HgtS.moreX (k : HgtS h0 h n0 wb mb X pf po bb bo B f x y ro l ns pe oc z) {x1 : S} {g : GeoT} {ks : S} (w : Grew h h1 x x1 h0.next 37 5 (flatG l ++ g.cells ks)) (hg : GeosAt h (Al wb (Own X x y po z.v)) g.kids ks) : HgtS h0 h1 n0 wb mb X pf po bb bo B f x1 y ro (l ++ [(g, ks)]) ns pe oc z := by
 have p1 := k.lo;have p2 := k.lf;have p3 := k.up.next;have p4 := k.fr.map.lt;have p5 := k.fr.lt;have u := w.up;have un := u.next;have lo : ∀ q, q < h0.next → q < h.next ∧ S.blk x ≠ some q := fun q hq => ⟨by omega, fun e => by have := (k.gx.grown.lt e).1; omega⟩
 have hOwn : ∀ q, wb < q → q < h.next → Own X x1 y po z.v q → Own X x y po z.v q := fun q _ h1 h2 => by
  rcases h2 with h2 | h2 | h2
  ·exact .inl h2
  ·rw [w.blk] at h2; cases h2; omega
  ·exact .inr (.inr h2)
 have hal : ∀ q, Al wb (Own X x y po z.v) q → q < h.next → Al wb (Own X x1 y po z.v) q := fun q h1 h2 => ⟨h1.1, fun h3 => h1.2 (hOwn q h1.1 h2 h3)⟩
 have hgp : ∀ q, Al wb (Own X x y po z.v) q → q < h.next → (q < h.next ∧ S.blk x ≠ some q) := fun q h1 h2 => ⟨h2, fun e => h1.2 (.inr (.inl e))⟩
 have m : MapOk h1 n0 wb mb (Own X x1 y po z.v) := k.fr.map.mono un (fun q z hq hn hz => by
  rw [u.get]
  ·exact hz
  ·rcases hq with hq | hq
   ·exact lo q Om
   ·exact ⟨hn, fun e => hq (.inr (.inl e))⟩) hOwn (by rw [u.may]; exact k.fr.map.may)
 refine ⟨k.fr.up u (fun q hq => lo q Om) m, k.hX, fun p hp' => (k.iv p hp').upB u (fun q hq => ⟨((k.iv p hp').blk hq).2, (k.sx p hp' q hq).1⟩), u.cells (lo po p1.2) k.co, by rw [u.may]; exact k.mo, k.lo, k.so, fun p hp' q hq => ⟨fun e => by rw [w.blk] at e; cases e; have := ((k.iv p hp').blk hq).2; omega, (k.sx p hp' q hq).2⟩, k.lf, ⟨by rw [flatG_append]; exact w.grown.same (by simp [flatG]), fun p hp => ?_⟩, k.gy.up u (fun q hq => ⟨(k.gy.lt hq).2, fun e => k.xy q e hq⟩), fun q h1 h2 => ?_, k.up.trans (u.mono fun q hq => lo q hq.1), w.ok, k.gz.up u (fun q hq => ⟨(k.gz.lt hq).2, fun e => k.xz q e hq⟩), (fun q h1 h2 => by rw [w.blk] at h1; cases h1; have := (k.gz.lt h2).2; omega), k.yz⟩
 ·rcases List.mem_append.1 hp with hp | hp
  ·exact (k.gx.kids p hp).up u hgp hal
  ·rw [List.mem_singleton.1 hp]; exact hg.up u hgp hal
 ·rw [w.blk] at h1; cases h1;have := (k.gy.lt h2).2; omega
theorem HgtS.moreY (k : HgtS h0 h n0 wb mb X pf po bb bo B f x y ro l ns pe oc z) {y1 : S} {n : Int} (w : Grew h h1 y y1 h0.next 3 1 (nums ns ++ [.i .i64 n])) : HgtS h0 h1 n0 wb mb X pf po bb bo B f x y1 ro l (ns ++ [n]) pe oc z := by
 have p1 := k.lo;have p2 := k.lf;have p3 := k.up.next;have p4 := k.fr.map.lt;have p5 := k.fr.lt;have u := w.up;have un := u.next;have lo : ∀ q, q < h0.next → q < h.next ∧ S.blk y ≠ some q := fun q hq => ⟨by omega, fun e => by have := (k.gy.lt e).1; omega⟩
 have hOwn : ∀ q, wb < q → q < h.next → Own X x y1 po z.v q → Own X x y po z.v q := fun q _ h1 h2 => by
  rcases h2 with h2 | h2 | h2 | h2
  ·exact .inl h2
  ·exact .inr (.inl h2)
  ·rw [w.blk] at h2; cases h2; omega
  ·exact .inr (.inr (.inr h2))
 have hal : ∀ q, Al wb (Own X x y po z.v) q → q < h.next → Al wb (Own X x y1 po z.v) q := fun q h1 h2 => ⟨h1.1, fun h3 => h1.2 (hOwn q h1.1 h2 h3)⟩
 have hgp : ∀ q, Al wb (Own X x y po z.v) q → q < h.next → (q < h.next ∧ S.blk y ≠ some q) := fun q h1 h2 => ⟨h2, fun e => h1.2 (.inr (.inr (.inl e)))⟩
 have m : MapOk h1 n0 wb mb (Own X x y1 po z.v) := k.fr.map.mono un (fun q z hq hn hz => by
  rw [u.get]
  ·exact hz
  ·rcases hq with hq | hq
   ·exact lo q Om
   ·exact ⟨hn, fun e => hq (.inr (.inr (.inl e)))⟩) hOwn (by rw [u.may]; exact k.fr.map.may)
 refine ⟨k.fr.up u (fun q hq => lo q Om) m, k.hX, fun p hp' => (k.iv p hp').upB u (fun q hq => ⟨((k.iv p hp').blk hq).2, (k.sx p hp' q hq).2⟩), u.cells (lo po p1.2) k.co, by rw [u.may]; exact k.mo, k.lo, k.so, fun p hp' q hq => ⟨(k.sx p hp' q hq).1, fun e => by rw [w.blk] at e; cases e; have := ((k.iv p hp').blk hq).2; omega⟩, k.lf, ⟨k.gx.grown.up u fun q hq => ⟨(k.gx.grown.lt hq).2, k.xy q hq⟩, fun p hp => (k.gx.kids p hp).up u hgp hal⟩, w.grown.same (by rw [nums_append]; rfl), fun q h1 h2 => ?_, k.up.trans (u.mono fun q hq => lo q hq.1), w.ok, k.gz.up u (fun q hq => ⟨(k.gz.lt hq).2, fun e => k.yz q e hq⟩), k.xz, (fun q h1 h2 => by rw [w.blk] at h1; cases h1; have := (k.gz.lt h2).2; omega)⟩;rw [w.blk] at h2; cases h2;have := (k.gx.grown.lt h1).2; omega
theorem HgtS.moreZ (k : HgtS h0 h n0 wb mb X pf po bb bo B f x y ro l ns pe oc z) {v1 : S} {cs1 : List S} (w : Grew h h1 z.v v1 h0.next z.e z.s cs1) (sz : ∀ p ∈ ro, ∀ q, S.blk p.1 = some q → S.blk z.v ≠ some q) : HgtS h0 h1 n0 wb mb X pf po bb bo B f x y ro l ns pe oc ⟨v1, z.e, z.s, cs1⟩ := by
 have p1 := k.lo;have p2 := k.lf;have p3 := k.up.next;have p4 := k.fr.map.lt;have p5 := k.fr.lt;have u := w.up;have un := u.next;have lo : ∀ q, q < h0.next → q < h.next ∧ S.blk z.v ≠ some q := fun q hq => ⟨by omega, fun e => by have := (k.gz.lt e).1; omega⟩
 have hOwn : ∀ q, wb < q → q < h.next → Own X x y po v1 q → Own X x y po z.v q := fun q _ h1 h2 => by
  rcases h2 with h2 | h2 | h2 | h2 | h2
  ·exact .inl h2
  ·exact .inr (.inl h2)
  ·exact .inr (.inr (.inl h2))
  ·exact .inr (.inr (.inr (.inl h2)))
  ·rw [w.blk] at h2; cases h2; omega
 have hal : ∀ q, Al wb (Own X x y po z.v) q → q < h.next → Al wb (Own X x y po v1) q := fun q h1 h2 => ⟨h1.1, fun h3 => h1.2 (hOwn q h1.1 h2 h3)⟩
 have hgp : ∀ q, Al wb (Own X x y po z.v) q → q < h.next → (q < h.next ∧ S.blk z.v ≠ some q) := fun q h1 h2 => ⟨h2, fun e => h1.2 (.inr (.inr (.inr (.inr e))))⟩
 have m : MapOk h1 n0 wb mb (Own X x y po v1) := k.fr.map.mono un (fun q o hq hn hz => by
  rw [u.get]
  ·exact hz
  ·rcases hq with hq | hq
   ·exact lo q Om
   ·exact ⟨hn, fun e => hq (.inr (.inr (.inr (.inr e))))⟩) hOwn (by rw [u.may]; exact k.fr.map.may)
 refine ⟨k.fr.up u (fun q hq => lo q Om) m, k.hX, fun p hp' => (k.iv p hp').upB u (fun q hq => ⟨((k.iv p hp').blk hq).2, sz p hp' q hq⟩), u.cells (lo po p1.2) k.co, by rw [u.may]; exact k.mo, k.lo, k.so, k.sx, k.lf, ⟨k.gx.grown.up u fun q hq => ⟨(k.gx.grown.lt hq).2, fun e => k.xz q hq e⟩, fun p hp => (k.gx.kids p hp).up u hgp hal⟩, k.gy.up u (fun q hq => ⟨(k.gy.lt hq).2, fun e => k.yz q hq e⟩), k.xy, k.up.trans (u.mono fun q hq => lo q hq.1), w.ok, w.grown, fun q h1 h2 => ?_, fun q h1 h2 => ?_⟩
 ·rw [w.blk] at h2; cases h2;have := (k.gx.grown.lt h1).2; omega
 ·rw [w.blk] at h2; cases h2;have := (k.gy.lt h1).2; omega
theorem HgtS.own (k : HgtS h0 h n0 wb mb X pf po bb bo B f x y ro l ns pe oc z) {q : Nat} (hq : Own X x y po z.v q) : q < h.next := by
 have p1 := k.lo;have p3 := k.up.next;rcases hq with h | h | h | h | h
 ·have := k.hX q h; omega
 ·exact (k.gx.grown.lt h).2
 ·exact (k.gy.lt h).2
 ·omega
 ·exact (k.gz.lt h).2
def Beside (X : Nat → Prop) (t q : Nat) : Prop := X q ∨ q = t
theorem MapOk.beside {Y : Nat → Prop} (m : MapOk h n0 wb mb Y) {t : Nat} (ht : h.next ≤ t) : MapOk h n0 wb mb (Beside Y t) :=
 m.mono (Nat.le_refl _) (fun _ _ _ _ h => h) (fun q _ h1 h2 => by
  rcases h2 with h2 | h2
  ·exact h2
  ·omega) m.may
theorem MapOk.aside {Y : Nat → Prop} {e : Nat} {xs : List S} {t : Nat} (m : MapOk h n0 wb mb (Beside Y t)) (p : Put h h1 t e xs) (ht : wb < t) : MapOk h1 n0 wb mb Y :=
 m.mono p.up.next (fun q z hq _ hz => by
  rw [p.up.get (show q ≠ t from hq.elim (fun h => by omega) fun h e => h (.inr e))]; exact hz) (fun _ _ _ h => .inl h) (by rw [p.up.may]; exact m.may)
theorem GeosAt.aside {Y : Nat → Prop} {e : Nat} {xs : List S} {t : Nat} {gs : List GeoT} {v : S} (m : GeosAt h (Al wb (Beside Y t)) gs v) (p : Put h h1 t e xs) : GeosAt h1 (Al wb Y) gs v :=
 m.up p.up (fun q h1 _ e => h1.2 (.inr e)) fun q h1 _ => ⟨h1.1, fun h => h1.2 (.inl h)⟩
theorem HgtS.temp {h3 h4 h5 : H} {t e : Nat} {xs : List S} (k : HgtS h0 h n0 wb mb X pf po bb bo B f x y ro l ns pe oc z) (ht : t = h.next) (u3 : Up (· < h.next) h h3) (u4 : Up (fun q => q < h3.next ∧ q ≠ mb) h3 h4) (m4 : MapOk h4 n0 wb mb (Beside (Own X x y po z.v) t)) (p5 : Put h4 h5 t e xs) (ok : Ok h5) : HgtS h0 h5 n0 wb mb X pf po bb bo B f x y ro l ns pe oc z := by
 have p3 := u3.next;have p4 := k.fr.map.lt;refine k.step (p := fun q => q < h.next ∧ q ≠ mb) ((u3.mono fun q hq => hq.1).trans ((u4.mono fun q hq => ⟨by omega, hq.2⟩).trans (p5.up.mono fun q hq => by omega))) (fun q h1 h2 => ⟨h1, h2⟩) (m4.aside p5 Om) ok
theorem HgtS.setX (k : HgtS h0 h n0 wb mb X pf po bb bo B f x y ro l ns pe oc z) {q n : Nat} {l1 : List (GeoT × S)} (hx : x = .sl q 0 n n 5 false) (hn : 0 < n) (p : Put h h1 q 37 (flatG l1)) (hl : l1.length = n) (hg : ∀ p ∈ l1, GeosAt h (Al wb (Own X x y po z.v)) p.1.kids p.2) : HgtS h0 h1 n0 wb mb X pf po bb bo B f x y ro l1 ns pe oc z := by
 have p1 := k.lo;have p2 := k.lf;have p3 := k.up.next;have p4 := k.fr.map.lt;have p5 := k.fr.lt;have hb : S.blk x = some q := by rw [hx]; rfl
 have hq := k.gx.grown.lt hb;have un := p.up.next
 have m : MapOk h1 n0 wb mb (Own X x y po z.v) := k.fr.map.mono un (fun r z hr _ hz => by
  rw [p.up.get (show r ≠ q from hr.elim (fun h => by omega) fun h e => h (.inr (.inl (by rw [e]; exact hb))))]; exact hz) (fun _ _ _ h => h) (by rw [p.up.may]; exact k.fr.map.may)
 exact ⟨k.fr.up p.up (fun r hr => by omega) m, k.hX, fun w hw => (k.iv w hw).upB p.up (fun r hr e => (k.sx w hw r hr).1 (by rw [e]; exact hb)), p.up.cells Om k.co, by rw [p.up.may]; exact k.mo, k.lo, k.so, k.sx, k.lf, ⟨.inr ⟨q, n, hx, hn, by rw [flatG_len, hl], p.cells, p.may, hq.1, by omega⟩, fun w hw => (hg w hw).up p.up (fun r h1 _ e => h1.2 (.inr (.inl (by rw [e]; exact hb)))) fun _ h _ => h⟩, k.gy.up p.up (fun r hr e => k.xy q hb (by rw [← e]; exact hr)), k.xy, k.up.trans (p.up.mono fun r hr => by omega), p.ok k.ok, k.gz.up p.up (fun r hr e => k.xz q hb (by rw [← e]; exact hr)), k.xz, k.yz⟩
theorem HgtS.dropY (k : HgtS h0 h n0 wb mb X pf po bb bo B f x y ro l ns pe oc z) : HgtS h0 h n0 wb mb X pf po bb bo B f x .sl0 (ro ++ [(y, ns)]) l [] pe oc z := by
 have p1 := k.lo
 have sub : ∀ q, Own X x .sl0 po z.v q → Own X x y po z.v q := fun q hq => by
  rcases hq with h | h | h | h
  ·exact .inl h
  ·exact .inr (.inl h)
  ·cases h
  ·exact .inr (.inr (.inr h))
 have al : ∀ q, Al wb (Own X x y po z.v) q → q < h.next → Al wb (Own X x .sl0 po z.v) q := fun q h1 _ => ⟨h1.1, fun h => h1.2 (sub q h)⟩
 refine ⟨k.fr.up (.refl (fun _ => True) h) (fun _ _ => trivial) (k.fr.map.mono (Nat.le_refl _) (fun _ _ _ _ h => h) (fun q _ _ h => sub q h) k.fr.map.may), k.hX, fun p hp => ?_, k.co, k.mo, k.lo, fun p hp => ?_, fun p hp q hq => ?_, k.lf, k.gx.up (.refl (fun _ => True) h) (fun _ _ _ => trivial) (fun _ _ _ => trivial) al, .nil, fun q _ h => (by cases h), k.up, k.ok, k.gz, k.xz, fun q h => (by cases h)⟩
 ·rcases List.mem_append.1 hp with hp | hp
  ·exact k.iv p hp
  ·rw [List.mem_singleton.1 hp]; exact k.gy.intsIn Om
 ·rcases List.mem_append.1 hp with hp | hp
  ·exact k.so p hp
  ·rw [List.mem_singleton.1 hp]; exact fun e => by have := (k.gy.lt e).1; omega
 ·rcases List.mem_append.1 hp with hp | hp
  ·exact ⟨(k.sx p hp q hq).1, fun h => by cases h⟩
  ·rw [List.mem_singleton.1 hp] at hq; exact ⟨fun e => k.xy q e hq, fun h => by cases h⟩
theorem HgtS.rebase {hh : H} (k : HgtS h0 h n0 wb mb X pf po bb bo B f x y ro l ns pe oc z) (u : Up (fun q => q < hh.next ∧ q ≠ mb ∧ q ≠ po) hh h0) (hX : ∀ q, X q → q < hh.next) (h1 : po < hh.next) (h2 : pf < hh.next) : HgtS hh h n0 wb mb X pf po bb bo B f x y ro l ns pe oc z := by
 have un := u.next;exact ⟨k.fr, hX, k.iv, k.co, k.mo, ⟨k.lo.1, h1⟩, k.so, k.sx, h2, ⟨k.gx.grown.from0 un, k.gx.kids⟩, k.gy.from0 un, k.xy, u.trans (k.up.mono fun q hq => ⟨by omega, hq.2⟩), k.ok, k.gz.from0 un, k.xz, k.yz⟩
end
end Go.Ai
namespace Go.Ai
open Go.Proofs
def lnG0 (f : Frm) (K : List Kid) (sizes : List Int) : List GeoT := List.zipWith (fun k s => k.lay f.inner (withinI s (vAt k.vals 12)) (-1)) K sizes
theorem zipK {α : Type} {fn : Kid → Int → α} {B : BoxT} {fr n k : Nat} {C : BoxT} {sizes : List Int} {s : Int} (hC : B.kids[fr + k]? = some C) (hk : k < n) (hs : sizes[k]? = some s) :
  (List.zipWith fn (((B.kids.drop fr).take n).map kidOf) sizes).take (k + 1) = (List.zipWith fn (((B.kids.drop fr).take n).map kidOf) sizes).take k ++ [fn (kidOf C) s] := by
 refine zip_take ?_ hs;rw [List.getElem?_map, List.getElem?_take, if_pos hk, List.getElem?_drop, hC]; rfl
theorem foldl_take {l : List Int} {k : Nat} {x : Int} {a : Int} (e : l.take (k + 1) = l.take k ++ [x]) : (l.take (k + 1)).foldl max a = max ((l.take k).foldl max a) x := by
 rw [e, List.foldl_append]; rfl
theorem natAdd (a b : Nat) : (a : Int) + (b : Int) = ((a + b : Nat) : Int) := rfl
theorem heights_fn {spec : CallF} (hs : SpecLay spec) {h : H} {n0 wb mb pf po bb bo fr n : Nat} {X : Nat → Prop} {B : BoxT} {f : Frm} {sizes : List Int} {sv its xv yv : S} (ok : Ok h) (k : Fr h n0 wb mb (Own X .sl0 .sl0 po) pf B bb bo f) (hX : ∀ q, X q → q < h.next) (hL : ∀ C ∈ B.kids, LayFn spec C) (hfr : fr + n ≤ B.kids.length) (hn64 : n ≤ 64) (hsz : sizes.length = n) (hnn : ∀ s ∈ sizes, NN s) (hi : IntsIn h (wb + 1) sv sizes) (hpo : wb < po ∧ po < h.next ∧ po ≠ pf) (hsb : S.blk sv ≠ some po) (co : Cells h po 115 [.i .i64 (fr : Int), its, xv, yv, .i .i64 0]) (mo : h.may po = true) :
  WF Try.prog spec 82 [.one (.p wb 0), .one (.p pf 0), .one (.p po 0), .one sv] h fun r h1 => ∃ x y l, r = .tup [(false, [x]), (false, [y])] ∧ l.map Prod.fst = lnG0 f (((B.kids.drop fr).take n).map kidOf) sizes ∧
   HgtS h h1 n0 wb mb X pf po bb bo B f x y [(sv, sizes)] l (lnHs f (((B.kids.drop fr).take n).map kidOf) sizes) 115 [.i .i64 (fr : Int), its, xv, yv, .i .i64 (lnCross B.vals f (lnHs f (((B.kids.drop fr).take n).map kidOf) sizes))] := by
 have hkl := k.box.kidsS.1;have hlt := k.lt;refine WF_of Try.func82 rfl (hs.s _ _ _) (by rw [Try.ntmps82]; simp) (by rw [Try.ntmps82]; decide) ?_;rw [Try.ntmps82, Try.results82];simp only [Sl.setMany_cons, Sl.setMany_nil, Nat.zero_add, Nat.reduceAdd]
 (repeat refine zS ?_); refine zR ?_
 iterate 2 (refine VO ?_)
 refine zN ?_; (repeat refine zS ?_);refine zR ?_;refine VO ?_;refine zV (hi.ints.len (ee)) Dc ?_;refine VO ?_;refine zN ?_; (repeat refine zS ?_)
 refine zK (W_rounds (fun j T h1 => ∃ i x y l, j = n - i ∧ i ≤ n ∧ T.get 0 = some (.one (.p wb 0)) ∧ T.get 1 = some (.one (.p pf 0)) ∧ T.get 2 = some (.one (.p po 0)) ∧ T.get 8 = some (.one x) ∧ T.get 9 = some (.one y) ∧ T.get 16 = some (.one sv) ∧ T.get 17 = some (.one (.i .i64 (n : Int))) ∧ T.get 18 = some (.one (.i .i64 (i : Int))) ∧ l.map Prod.fst = (lnG0 f (((B.kids.drop fr).take n).map kidOf) sizes).take i ∧
  HgtS h h1 n0 wb mb X pf po bb bo B f x y [(sv, sizes)] l ((lnHs f (((B.kids.drop fr).take n).map kidOf) sizes).take i) 115 [.i .i64 (fr : Int), its, xv, yv, .i .i64 (((lnHs f (((B.kids.drop fr).take n).map kidOf) sizes).take i).foldl max 0)]) ?_ n _ _ ?_)
 rotate_left
 ·refine ⟨0, .sl0, .sl0, [], rfl, Nat.zero_le _, gs, gs, gs, gs, gs, gs, (Gu1 @hsz), gs, by simp, k, hX, (fun p hp => by rw [List.mem_singleton.1 hp]; exact hi), co, .inr mo, ⟨hpo.1, hpo.2.1⟩, (fun p hp => by rw [List.mem_singleton.1 hp]; exact hsb), (fun p hp q hq => ⟨(fun h => by cases h), (fun h => by cases h)⟩), hlt.2, .nil, .nil, (fun q hq => by cases hq), .refl _ _, ok, .nil, (fun q hq => by cases hq), (fun q hq => by cases hq)⟩
 rintro j T h1 ⟨i, x, y, l, rfl, hin, t0, t1, t2, t8, t9, t16, t17, t18, hl, c1⟩
 (repeat refine zS ?_); refine zR ?_
 (refine VX (zB (Gs2 @t17 @t18) (Gs2 @t17 @t18) zL) ?_)
 refine zN ?_; (repeat refine zS ?_);refine zC (ee) (fun hlt => W_skip ?_) (fun hge => W_exit ?_)
 ·have hi' : (i : Int) < (n : Int) := by simpa using hlt
  have hi' : i < n := by omega
  obtain ⟨C, hC⟩ : ∃ C, B.kids[fr + i]? = some C := ⟨_, List.getElem?_eq_getElem Om⟩;obtain ⟨s, hS⟩ : ∃ s, sizes[i]? = some s := ⟨_, List.getElem?_eq_getElem Om⟩;have hLC := hL C (List.mem_of_getElem? hC);have hsn := hnn s (List.mem_of_getElem? hS);have hzG := zipK (fn := fun k s => k.lay f.inner (withinI s (vAt k.vals 12)) (-1)) hC hi' hS;have hzH := zipK (fn := fun k s => outH k (k.lay f.inner (withinI s (vAt k.vals 12)) (-1))) hC hi' hS;change (lnG0 _ _ _).take _ = (lnG0 _ _ _).take _ ++ _ at hzG;change (lnHs _ _ _).take _ = (lnHs _ _ _).take _ ++ _ at hzH;rw [kidOf_vals] at hzG;simp only [kidOf_vals, outH] at hzH;change _ = _ ++ [layI C f.inner (withinI s (vAt C.vals 12)) (-1)] at hzG;change _ = _ ++ [outI (vAt C.vals 12) (layI C f.inner (withinI s (vAt C.vals 12)) (-1)).h] at hzH;have hHl : (lnHs f (((B.kids.drop fr).take n).map kidOf) sizes).length = n := by unfold lnHs; simp; omega
  have hGl : (lnG0 f (((B.kids.drop fr).take n).map kidOf) sizes).length = n := by unfold lnG0; simp; omega
  generalize lnHs f (((B.kids.drop fr).take n).map kidOf) sizes = HS at *;generalize lnG0 f (((B.kids.drop fr).take n).map kidOf) sizes = GS at *
  repeat refine zS ?_
  refine W_cut (fun T2 h2 => ∃ x2 y2 l2, T2.get 0 = some (.one (.p wb 0)) ∧ T2.get 1 = some (.one (.p pf 0)) ∧ T2.get 2 = some (.one (.p po 0)) ∧ T2.get 8 = some (.one x2) ∧ T2.get 9 = some (.one y2) ∧ T2.get 16 = some (.one sv) ∧ T2.get 17 = some (.one (.i .i64 (n : Int))) ∧ T2.get 18 = some (.one (.i .i64 (i : Int))) ∧ l2.map Prod.fst = GS.take (i + 1) ∧
   HgtS h h2 n0 wb mb X pf po bb bo B f x2 y2 [(sv, sizes)] l2 (HS.take (i + 1)) 115 [.i .i64 (fr : Int), its, xv, yv, .i .i64 (max ((HS.take i).foldl max 0) (outI (vAt C.vals 12) (layI C f.inner (withinI s (vAt C.vals 12)) (-1)).h))]) ?_ ?_
  ·refine zK ?_;obtain ⟨kb, ko, kc, kx, hbk0, hkb, hbC0⟩ := k.box.kid hC;have hbb := k.box.own.val.lt;have mlt0 := k.map.lt;have low : ∀ q, q < n0 → q < h.next ∧ q ≠ mb ∧ q ≠ po := fun q hq => by omega
   have hbk : h1.row bb (bo + 3) 1 = some [.sl kb ko B.kids.length kc 4 kx] := by rw [c1.up.row (low bb hbb)]; exact hbk0
   have hbC : BoxAt h1 n0 C kb (ko + (fr + i) * 4) := hbC0.mono fun q x hq hx => by rw [c1.up.get (low q hq)]; exact hx
   have hCo := hbC.own;have hCm := (hCo.vok.at (i := 12) Om).2.2.2
   obtain ⟨sb, sc, sx, hsv, hs1, hs2, hsr⟩ : ∃ sb sc sx, sv = .sl sb 0 sizes.length sc 1 sx ∧ wb + 1 ≤ sb ∧ sb < h1.next ∧ ∀ k x, sizes[k]? = some x → h1.row sb k 1 = some [.i .i64 x] := by
    rcases c1.iv (sv, sizes) (by simp) with ⟨q, _⟩ | q
    ·simp only at q; rw [q] at hsz; simp at hsz; omega
    ·exact q
   have rs := hsr i s hS;rw [hsv] at t16;have cf := c1.fr.cf;have co1 := c1.co;have plt := c1.fr.lt;have mlt := c1.fr.map.lt;have hn1 := c1.up.next;unfold Frm.cells at cf
   (repeat refine zS ?_); refine zR ?_
   iterate 5 (first | (refine VX (Gd2 @t16 @t18) ?_) | (refine VX (by simp (disch := first | omega | simp) only [go_sem, ↓reduceIte, Nat.reduceEqDiff, Nat.reduceAdd, rs, t16, t18]; rfl) ?_) | (refine VX (Ga2 @t16 @t18) ?_))
   refine zN ?_; (repeat refine zS ?_);refine W_drawn dr82_4 (by kernel_rfl) c1.ok.floor ?_;unfold dr82_4
   iterate 15 (first | (refine IX rfl (zB (by simp only [go_sem, ↓reduceIte, Nat.reduceEqDiff, t1, t2, natAdd]; rfl) (by simp only [go_sem, ↓reduceIte, Nat.reduceEqDiff, t1, t2, natAdd]; rfl) zA) ?_; (try rw [zI Om Om])) | (refine IL rfl zF (by simp only [go_sem, ↓reduceIte, Nat.reduceEqDiff, t1, t2, natAdd]; rfl) (Gd3 @cf.row @hbk @co1.row) ?_) | (refine IX rfl (by simp (disch := first | omega | simp) only [go_sem, ↓reduceIte, Nat.reduceEqDiff, Nat.reduceAdd, t1, t2, natAdd]; rfl) ?_) | (refine IX rfl (by simp only [go_sem, ↓reduceIte, Nat.reduceEqDiff, Nat.reduceAdd, t1, t2, natAdd]; rfl) ?_))
   refine WI_nil ?_; (repeat refine zS ?_);refine W_drawn dr82_5 (by kernel_rfl) c1.ok.floor ?_;unfold dr82_5
   iterate 8 (first | (refine IL rfl zF (Gs2 @t0 @t1) (Gd1 @cf.row) ?_) | (refine IX rfl (Ga2 @t0 @t1) ?_))
   refine WI_al rfl zb37 rfl c1.ok Dc fun h2 n2 => ?_;have e2 := n2.next;refine CP rfl (ee) (v_fn hs ((hCo.val.up n2.up fun q hq => by omega).fenced fun q hq => OffA) (i := 12) (hCo.vok.at Om).1) ?_;refine CV rfl (ee) n2.ok (within2_fn hs (n2.ok.fenced (fun b hb => OffA) (fun b hb => OffA) n2.ok.floor) hsn.co hCm) fun h3 u3 o3 hn3 => ?_;have u3 : Up (· < h2.next) h2 h3 := u3;have u13 : Up (· < h1.next) h1 h3 := n2.up.trans (u3.mono fun q hq => by omega);refine WI_val (v := .agg [.p kb (ko + (fr + i) * 4), .i .i64 f.inner, .i .i64 (withinI s (vAt C.vals 12)), .i .i64 (-1)]) rfl zF rfl (by rw [ex_build]; exact bd_of (by kernel_rfl : placesOf Try.prog 75 = some [(0, 1), (1, 1), (2, 1), (3, 1)]) zb75 (by simp only [evParts, go_sem, ↓reduceIte, Nat.reduceEqDiff]; rfl) rfl) Dc ?_;have hq : QOk f.inner (withinI s (vAt C.vals 12)) (-1) := ⟨c1.fr.inner, by have := withinI_nn s (vAt C.vals 12); omega, by omega⟩;refine CLay (h0 := h1) (X := Beside (Own X x y po) h1.next) rfl (Gt1 @t0) o3 (o3.fenced (fun b hb => OffA) (fun b hb => OffA) o3.floor) (c1.fr.map.beside (Nat.le_refl _)) (fun q hq => ?_) u13 (fun q hq => OffA) OffA (H.may_iff (c1.fr.map.up u13).may).1.1 hbC hq hLC fun ks h4 g4 u4 m4 o4 hn4 => ?_
   ·rcases hq with hq | hq
    ·have := c1.own hq; omega
    ·omega
   have c24 := u4.cells (b := h1.next) ⟨by omega, by omega⟩ (u3.cells (show h1.next < h2.next by omega) n2.cells);have m4t : h4.may h1.next = true := by rw [u4.may, u3.may]; exact n2.may
   refine WI_storeA rfl (ee) (ee) sz37 (GeoT.cells_len _ _) (fun e => by have := congrArg List.length e; rw [GeoT.cells_len] at this; cases this) c24 m4t (by rw [GeoT.cells_len]; simp [V.cells]) OffA OffA (H.may_iff m4t).1.1 fun h5 p5 => ?_;have p5 := p5.whole (by rw [GeoT.cells_len]; rfl);have e5 := p5.next;have o5 := p5.ok o4;have c5 := c1.temp rfl u13 u4 m4 p5 o5;have g5 := g4.aside p5;have r5 : h5.row h1.next 0 5 = some ((layI C f.inner (withinI s (vAt C.vals 12)) (-1)).cells ks) := by have := p5.cells.all; rw [GeoT.cells_len] at this; exact this
   clear g4 m4 u4 c24;have hW := layI_w hCo.vok hq;have hH := layI_h hCo.vok hq;generalize layI C f.inner (withinI s (vAt C.vals 12)) (-1) = G at *;refine WI_nil ?_; (repeat refine zS ?_);refine zR ?_
   (refine VX (Gd1 @r5) ?_)
   refine WO_fn (ee) (by simp) Dc ((size_fnG hs o5 hW hH).mono ?_);rintro _ h6 ⟨rfl, u6, o6⟩;have e6 := u6.next;have c6 := c5.upLt u6 o6;have g6 := g5.up u6 (fun q _ h => h) fun _ h _ => h
   have r6 : h6.row h1.next 0 5 = some (G.cells ks) := by rw [u6.row (show h1.next < h5.next by omega)]; exact r5
   iterate 5 (refine VO ?_)
   refine zN ?_; (repeat refine zS ?_);refine zR ?_
   (refine VX (Ga1 @t8) ?_)
   (refine VX (Gd2 @r6 @t8) ?_)
   refine WO_bsA el35 ze35 rfl Dc Dc (ee) (GeoT.cells_len _ _) o6 Dc fun h7 n7 => ?_;have e7 := n7.next;have c7 := c6.upLt n7.up n7.ok;have g7 := g6.up n7.up (fun q _ h => h) fun _ h _ => h
   have hll : l.length = i := by have := congrArg List.length hl; rw [List.length_map] at this; rw [this, List.length_take]; omega
   have hn7 := c7.up.next;refine WO_app (n0 := h.next) ap35_35 (Gt1 @t8) (ee) n7.cells (GeoT.cells_len _ _) c7.gx.grown n7.ok hn7 (m := i) (by rw [flatG_len, hll]) Om Om Dc fun x8 h8 w8 => ?_;have e8 := w8.next;have c8 := c7.moreX w8 g7
   iterate 3 (refine VX (Ga1 @t9) ?_)
   refine WO_fn (Gt1 @t9) (by simp) Dc ((outer_fn hs w8.ok (hbC0.own.val.up c8.up low) hCo.vok hH.co).mono ?_);rintro _ h9 ⟨rfl, u9, o9⟩;have e9 := u9.next;have c9 := c8.upLt u9 o9;refine WO_bs1 el26 ⟨_, ze26⟩ (ee) o9 Dc fun h10 n10 => ?_;have e10 := n10.next;have c10 := c9.upLt n10.up n10.ok;have hn10 := c10.up.next;refine WO_app (n0 := h.next) ap26_26 (Gt1 @t9) (ee) n10.cells rfl c10.gy n10.ok hn10 (m := i) (by rw [nums_length, List.length_take]; omega) Om Om Dc fun y11 h11 w11 => ?_;have c11 := c10.moreY w11
   iterate 2 (refine VO ?_)
   refine zN ?_; (repeat refine zS ?_);have hn11 := c11.up.next;have cy := c11.gy;rw [← hzH] at cy;obtain ⟨qy, rfl, cyc, hqy, mqy⟩ := cy.whole (by rw [List.length_take]; omega);have ryl : (HS.take (i + 1))[i]? = some (outI (vAt C.vals 12) G.h) := by rw [hzH, List.getElem?_append_right (by rw [List.length_take]; omega), List.length_take, Nat.min_eq_left Om, Nat.sub_self]; rfl
   have ry := cyc.at1 (nums_get ryl);have hil : i < (HS.take (i + 1)).length := by rw [List.length_take]; omega
   have co11 := c11.co;refine W_drawn dr82_8 (by kernel_rfl) w11.ok.floor ?_;unfold dr82_8
   iterate 12 (first | (refine IX rfl (ex_max (Gs1 @t2) (Gs1 @t2)) ?_) | (refine IL rfl zF (Gs1 @t2) (Gd2 @co11.row @ry) ?_) | (refine IX rfl (Gd1 @t2) ?_) | (refine IX rfl (Ga1 @t2) ?_))
   refine WI_store1 rfl (ee) (ee) sz3 c11.co (c11.mo.resolve_left hpo.2.2) (by simp) OffA OffA (H.may_iff (c11.mo.resolve_left hpo.2.2)).1.1 fun h12 p12 => ?_;refine WI_nil ⟨rfl, x8, _, l ++ [(G, ks)], gt t0, gt t1, gt t2, gs, gs, (Gu2 @t16 @hsv), gt t17, gt t18, by rw [List.map_append, hl, hzG]; rfl, ?_⟩;have c12 := c11.put hpo.2.2 p12;rw [← hzH] at c12;exact c12
  ·rintro T2 h2 ⟨x2, y2, l2, t0, t1, t2, t8, t9, t16, t17, t18, hl2, c2⟩;refine zR ?_
   (refine VX (zB (Gs1 @t18) (Gs1 @t18) zA) ?_; (try rw [zI Om Om]))
   (refine VX (Ga1 @t18) ?_)
   refine zN ⟨n - (i + 1), by omega, i + 1, x2, y2, l2, rfl, hi', gt t0, gt t1, gt t2, gt t8, gt t9, gt t16, gt t17, gs, hl2, ?_⟩;rw [foldl_take hzH];exact c2
 ·have hge2 : ¬ (i : Int) < (n : Int) := by simpa using hge
  obtain rfl : i = n := by omega
  refine ⟨fun _ => ?_, fun hne => absurd rfl hne⟩;rw [List.take_of_length_le (by unfold lnG0; simp; omega)] at hl;rw [List.take_of_length_le (by unfold lnHs; simp; omega)] at c1;generalize lnHs f (((B.kids.drop fr).take i).map kidOf) sizes = HS at *;have cf := c1.fr.cf;have bv := c1.fr.box.own;have plt := c1.fr.lt;unfold Frm.cells at cf;refine zS ?_;refine W_cut (fun T2 h2 => T2.get 8 = some (.one x) ∧ T2.get 9 = some (.one y) ∧ HgtS h h2 n0 wb mb X pf po bb bo B f x y [(sv, sizes)] l HS 115 [.i .i64 (fr : Int), its, xv, yv, .i .i64 (lnCross B.vals f HS)]) ?_ ?_
  ·refine zS ?_;refine W_cut (fun T2 h2 => h2 = h1 ∧ T2.get 1 = some (.one (.p pf 0)) ∧ T2.get 2 = some (.one (.p po 0)) ∧ T2.get 8 = some (.one x) ∧ T2.get 9 = some (.one y) ∧ T2.get 89 = some (.one (.b (decide (vAt B.vals 2 = 0 ∧ f.h ≠ -1))))) ?_ ?_
   ·refine zR ?_
    iterate 3 (refine VX (Ga1 @t1) ?_)
    (refine VX (Gd2 @cf.row @t1) ?_)
    refine WO_fn (ee) (by simp) Dc ((v_fn hs bv.val (i := 2) (bv.vok.at Om).1).mono ?_);rintro _ h1 ⟨rfl, rfl⟩
    (refine VX (zB (Gs1 @t1) (Gs1 @t1) in_eql) ?_)
    (refine VX (Ga1 @t1) ?_)
    refine WO_grd rfl rfl (Gs1 @t1) (fun c1 => ?_) (fun c1 => ?_)
    ·(refine VG (zT rfl rfl (Gs2 @t1 @c1) rfl) (Ga2 @t1 @c1) ?_)
     (refine VG (zT rfl rfl (Gs2 @t1 @c1) rfl) (Ga2 @t1 @c1) ?_)
     (refine VG (zT rfl rfl (Gs2 @t1 @c1) rfl) (Ga2 @t1 @c1) ?_)
     (refine VG (zT rfl rfl (Gs2 @t1 @c1) rfl) (Gd3 @cf.row @t1 @c1) ?_)
     (refine VG (zT rfl rfl (Gs2 @t1 @c1) rfl) (zB (Gs2 @t1 @c1) (Gs2 @t1 @c1) in_neq) ?_)
     (refine VX (Ga2 @t1 @c1) ?_)
     refine zN ⟨rfl, rfl, (Gu2 @t1 @c1), (Gu2 @t2 @c1), (Gu2 @t8 @c1), (Gu2 @t9 @c1), ?_⟩;simp at c1;simp [c1, go_sem]
    ·refine VN (zG rfl rfl (Gs2 @t1 @c1) rfl) ?_;refine VN (zG rfl rfl (Gs2 @t1 @c1) rfl) ?_;refine VN (zG rfl rfl (Gs2 @t1 @c1) rfl) ?_;refine VN (zG rfl rfl (Gs2 @t1 @c1) rfl) ?_;refine VN (zG rfl rfl (Gs2 @t1 @c1) rfl) ?_
     (refine VX (Ga2 @t1 @c1) ?_)
     refine zN ⟨rfl, rfl, (Gu2 @t1 @c1), (Gu2 @t2 @c1), (Gu2 @t8 @c1), (Gu2 @t9 @c1), ?_⟩;simp at c1;simp [c1, go_sem]
   rintro T2 h2 ⟨rfl, t1, t2, t8, t9, t89⟩;refine zC (Gt1 @t89) (fun hc => ?_) (fun hc => W_skip ?_)
   ·have hc : vAt B.vals 2 = 0 ∧ f.h ≠ -1 := of_decide_eq_true hc;have co1 := c1.co;refine zR ?_
    iterate 7 (first | (refine VX (Gd3 @cf.row @t1 @t2) ?_) | (refine VX (Ga2 @t1 @t2) ?_))
    refine WO_store1 (ee) (ee) sz3 c1.co (c1.mo.resolve_left hpo.2.2) (by simp) fun h3 p3 => ?_;refine zN ⟨rfl, gt t8, gt t9, ?_⟩;unfold lnCross;rw [if_pos hc];exact c1.put hpo.2.2 p3
   ·have hc : ¬ (vAt B.vals 2 = 0 ∧ f.h ≠ -1) := of_decide_eq_false hc;refine ⟨rfl, t8, t9, ?_⟩;unfold lnCross;rw [if_neg hc];exact c1
  rintro T2 h2 ⟨t8, t9, c2⟩
  (repeat refine zS ?_); refine zR ?_
  iterate 4 (refine VX (Ga2 @t8 @t9) ?_)
  exact zN (W_ret ⟨.inr rfl, _, RbA, x, y, l, rfl, hl, c2⟩)
end Go.Ai
