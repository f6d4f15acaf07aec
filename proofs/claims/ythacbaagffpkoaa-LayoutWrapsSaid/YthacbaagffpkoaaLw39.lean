/-
LayoutWraps, part 39 of 48: FxLayD FxLayE.
-/
import Derived.Test.YthacbaagffpkoaaLw38
set_option linter.unusedVariables false
set_option linter.unusedSimpArgs false
set_option maxRecDepth 100000
set_option maxHeartbeats 0
namespace Go.Ai
open Go.Proofs
section
variable {P : Program} {spec : CallF} {nt : Nat} {T : Sl} {h : H} {K : Sl → H → Prop} {all l : List Oper} {ty : TypeId} {ps : String} {af : Array Edge} {d : Tmp}
theorem WO_appN {s x : Operand} {t u elem size bytes n0 n : Nat} {v : S} {old xs : List S} {q m : Nat} {ex : Bool} (ha : appAt P t u = some (elem, size, bytes)) (hs : ev T s = some (.one v)) (hx : ev T x = some (.one (.sl q 0 n n size ex))) (hq : Cells h q elem xs) (hl : xs.length = n * size) (hn : 0 < n) (k : Grown h v n0 elem size old) (o : Ok h) (h0 : n0 ≤ h.next) (hm : old.length = m * size) (hb : (m + n) * bytes ≤ 1099511627776) (hb2 : m + n ≤ 1099511627776) (hd : d < nt)
  (hk : ∀ v1 h1, Grew h h1 v v1 n0 elem size (old ++ xs) → WO P spec nt all l (T.set d (.one v1)) h1 K) : WO P spec nt all (⟨some d, .call ⟨.builtin .append, #[s, x], #[t, u]⟩, ty, ps, af, none⟩ :: l) T h K := by
 have hr : srcB h size n (.one (.sl q 0 n n size ex)) = some xs := by
  show cond (Nat.beq n 0) (some []) (h.row q 0 (n * size)) = _;rw [show Nat.beq n 0 = false from Bool.eq_false_iff.2 fun e => by have := Nat.eq_of_beq_eq_true e; omega, cond_false, hq.row Om, List.drop_zero, ← hl, List.take_length]
 obtain ⟨v1, h1, e1, e2, e3, e4, e5, e6⟩ := k.append o h0 ha (x := .one (.sl q 0 n n size ex)) rfl hr hl hn hm hb hb2;exact zV (by rw [ex_append, hs, hx]; exact e1) hd (hk v1 h1 ⟨e2, e3, e4, e5, e6⟩)
end
theorem inRange_of {j n : Nat} (h : j < n) : inRange (j : Int) n = some j := by
 show cond (Nat.blt j n) (some j) none = _;rw [show Nat.blt j n = true from Nat.ble_eq_true_of_le h]; rfl
theorem ex_sliceI {P : Program} {T : Sl} {h : H} {t e sz b o len cap l k : Nat} {ex : Bool} {x lo hi : Operand} (ht : elemAt P t = some (e, sz)) (hx : ev T x = some (.one (.sl b o len cap sz ex))) (hl : ev T lo = some (.one (.i .i64 (l : Int)))) (hh : ev T hi = some (.one (.i .i64 (k : Int)))) (h1 : l ≤ k) (h2 : k ≤ cap) {d : Option Tmp} {ty : TypeId} {ps : String} {af : Array Edge} {g : Option (Nat × Bool)} :
  execO P T h ⟨d, .slice t x (some lo) (some hi) none, ty, ps, af, g⟩ = some (.val (.one (.sl b (o + l * sz) (k - l) (cap - l) sz ex)) h) := by
 show orPure P T h _ (doSlice P T h t (some lo) (some hi) none (ev T x)) = _
 have e1 : doSlice P T h t (some lo) (some hi) none (ev T x) = some (.val (.one (.sl b (o + l * sz) (k - l) (cap - l) sz ex)) h) := by
  rw [hx];unfold doSlice;unfold elemAt at ht;split at ht
  ·rename_i el hu;split at ht
   ·rename_i n hs;cases ht;simp only [hu, hs, bound, evInt, hl, hh, inRange_of (show k < cap + 1 by omega), inRange_of (show l < k + 1 by omega)];simp [slR, forceN_eq]
   ·cases ht
  ·cases ht
 rw [e1]; rfl
structure OneAt (h : H) (A : Nat → Prop) (p : Nat) (ln : Ln) : Prop where
 lt : A p ∧ p < h.next
 at_ : ∃ vb vo vc ex xs ys, Cells h p 115 [.i .i64 (ln.fr : Int), .sl vb vo ln.n vc 5 ex, xs, ys, .i .i64 ln.cross] ∧ IntsIn h 0 xs ln.x ∧ (∀ q, S.blk xs = some q → A q) ∧ IntsIn h 0 ys ln.y ∧ (∀ q, S.blk ys = some q → A q)
theorem OneAt.up {h h1 : H} {A A1 : Nat → Prop} {p : Nat} {ln : Ln} {pr : Nat → Prop} (k : OneAt h A p ln) (u : Up pr h h1) (hp : ∀ q, A q → q < h.next → pr q) (hA : ∀ q, A q → q < h.next → A1 q) : OneAt h1 A1 p ln := by
 obtain ⟨vb, vo, vc, ex, xs, ys, k1, k2, k3, k4, k5⟩ := k.at_;have un := u.next;exact ⟨⟨hA p k.lt.1 k.lt.2, by have := k.lt.2; omega⟩, vb, vo, vc, ex, xs, ys, u.cells (hp p k.lt.1 k.lt.2) k1, k2.upB u (fun q hq => hp q (k3 q hq) (k2.blk hq).2), fun q hq => hA q (k3 q hq) (k2.blk hq).2, k4.upB u (fun q hq => hp q (k5 q hq) (k4.blk hq).2), fun q hq => hA q (k5 q hq) (k4.blk hq).2⟩
theorem HgtS.moreXs {h0 h h1 : H} {n0 wb mb pf po bb bo pe : Nat} {X : Nat → Prop} {B : BoxT} {f : Frm} {x y : S} {ro : List (S × List Int)} {ns : List Int} {l : List (GeoT × S)} {oc : List S} {z : Gz} (k : HgtS h0 h n0 wb mb X pf po bb bo B f x y ro l ns pe oc z) {x1 : S} {l2 : List (GeoT × S)} (w : Grew h h1 x x1 h0.next 37 5 (flatG l ++ flatG l2)) (hg : ∀ p ∈ l2, GeosAt h (Al wb (Own X x y po z.v)) p.1.kids p.2) : HgtS h0 h1 n0 wb mb X pf po bb bo B f x1 y ro (l ++ l2) ns pe oc z := by
 have p1 := k.lo;have p2 := k.lf;have p3 := k.up.next;have p4 := k.fr.map.lt;have p5 := k.fr.lt;have u := w.up;have un := u.next;have lo : ∀ q, q < h0.next → q < h.next ∧ S.blk x ≠ some q := fun q hq => ⟨by omega, fun e => by have := (k.gx.grown.lt e).1; omega⟩
 have hOwn : ∀ q, wb < q → q < h.next → (Own X x1 y po z.v) q → (Own X x y po z.v) q := fun q _ h1 h2 => by
  rcases h2 with h2 | h2 | h2
  ·exact .inl h2
  ·rw [w.blk] at h2; cases h2; omega
  ·exact .inr (.inr h2)
 have hal : ∀ q, Al wb (Own X x y po z.v) q → q < h.next → Al wb (Own X x1 y po z.v) q := fun q h1 h2 => ⟨h1.1, fun h3 => h1.2 (hOwn q h1.1 h2 h3)⟩
 have hgp : ∀ q, Al wb (Own X x y po z.v) q → q < h.next → (q < h.next ∧ S.blk x ≠ some q) := fun q h1 h2 => ⟨h2, fun e => h1.2 (.inr (.inl e))⟩
 have m : MapOk h1 n0 wb mb (Own X x1 y po z.v) := k.fr.map.mono un (fun q o hq hn hz => by
  rw [u.get]
  ·exact hz
  ·rcases hq with hq | hq
   ·exact lo q Om
   ·exact ⟨hn, fun e => hq (.inr (.inl e))⟩) hOwn (by rw [u.may]; exact k.fr.map.may)
 refine ⟨k.fr.up u (fun q hq => lo q Om) m, k.hX, fun p hp' => (k.iv p hp').upB u (fun q hq => ⟨((k.iv p hp').blk hq).2, (k.sx p hp' q hq).1⟩), u.cells (lo po p1.2) k.co, by rw [u.may]; exact k.mo, k.lo, k.so, fun p hp' q hq => ⟨fun e => by rw [w.blk] at e; cases e; have := ((k.iv p hp').blk hq).2; omega, (k.sx p hp' q hq).2⟩, k.lf, ⟨by rw [flatG_append]; exact w.grown, fun p hp => ?_⟩, k.gy.up u (fun q hq => ⟨(k.gy.lt hq).2, fun e => k.xy q e hq⟩), fun q h1 h2 => ?_, k.up.trans (u.mono fun q hq => lo q hq.1), w.ok, k.gz.up u (fun q hq => ⟨(k.gz.lt hq).2, fun e => k.xz q e hq⟩), (fun q h1 h2 => by rw [w.blk] at h1; cases h1; have := (k.gz.lt h2).2; omega), k.yz⟩
 ·rcases List.mem_append.1 hp with hp | hp
  ·exact (k.gx.kids p hp).up u hgp hal
  ·exact (hg p hp).up u hgp hal
 ·rw [w.blk] at h1; cases h1;have := (k.gy.lt h2).2; omega
end Go.Ai
namespace Go.Ai
open Go.Proofs
def NB (h0 : H) (x y a : S) (q : Nat) : Prop := h0.next ≤ q ∧ S.blk x ≠ some q ∧ S.blk y ≠ some q ∧ S.blk a ≠ some q
structure RowS (h0 h : H) (n0 wb mb : Nat) (X : Nat → Prop) (pf bb bo : Nat) (B : BoxT) (f : Frm) (v ln x y a : S) (DI : List Itm) (NS : List Int) (LNS : List Ln) (m : Nat) (l : List (GeoT × S)) (pl : List Nat) : Prop where
 st : HgtS h0 h n0 wb mb X pf pf bb bo B f x y [] l ((LNS.take m).map Ln.cross) 83 (f.cells bb bo) ⟨a, 113, 1, pl.map fun p => S.p p 0⟩
 gs : l.map Prod.fst = (LNS.take m).flatMap Ln.gs
 ll : l.length = ahead NS m
 lp : pl.length = m
 ones : ∀ (j p : Nat) (r : Ln), pl[j]? = some p → LNS[j]? = some r → OneAt h (NB h0 x y a) p r
 il : IntsIn h 0 ln NS
 ib : ∀ q, S.blk ln = some q → NB h0 x y a q
 iv : Grown h v h0.next 109 5 (flatI DI)
 vb : ∀ q, S.blk v = some q → NB h0 x y a q
theorem Fr.own {h h1 : H} {n0 wb mb pf bb bo e : Nat} {Y : Nat → Prop} {B : BoxT} {f : Frm} {xs : List S} (k : Fr h n0 wb mb Y pf B bb bo f) (n : New h h1 e xs) : Fr h1 n0 wb mb (Own Y .sl0 .sl0 h.next) pf B bb bo f :=
 k.up n.up (fun q hq => by have := k.lt; have := k.map.lt; omega) (k.map.mono n.up.next (fun q x _ hq hx => by rw [n.up.get hq]; exact hx) (fun q h1 h2 h3 => by
  rcases h3 with h3 | h3 | h3 | h3 | h3
  ·exact h3
  ·cases h3
  ·cases h3
  ·omega
  ·cases h3) (by rw [n.up.may]; exact k.map.may))
theorem IntsIn.low {h : H} {m : Nat} {v : S} {l : List Int} (k : IntsIn h m v l) : IntsIn h 0 v l := by
 rcases k with k | ⟨b, c, ex, e, _, h1, h2⟩
 ·exact .inl k
 ·exact .inr ⟨b, c, ex, e, Nat.zero_le _, h1, h2⟩
theorem lnI_lens {fv : List Int} {f : Frm} {K : List Kid} {L : List Itm} {fr n : Nat} (hK : K.length = n) (hL : L.length = n) : (lnI fv f K L fr n).gs.length = n ∧ (lnI fv f K L fr n).x.length = n ∧ (lnI fv f K L fr n).y.length = n := by
 have hs : (solveI prtI L (vAt fv 14) f.inner).length = n := by rw [solve_length]; exact hL
 refine ⟨?_, ?_, ?_⟩
 ·show (lnG _ _ _ _ _).length = n;unfold lnG; rw [List.length_zipWith]; omega
 ·show (spreadL _ _ _ _).length = n;unfold spreadL; rw [rowI_len]; exact hs
 ·show (lnY _ _ _).length = n;unfold lnY lnHs; rw [List.length_map, List.length_zipWith]; omega
theorem acrossI_co {s r how : Int} : CO (acrossI s r how).1 := by
 have := restI_in r s;have := div_co (c := 2) this Om;unfold acrossI CO;split
 ·exact ⟨by show (_ : Int) ≤ 0; omega, by show (0 : Int) ≤ _; omega⟩
 ·split
  ·exact ⟨by show (_ : Int) ≤ restI _ _; omega, by show restI _ _ ≤ _; omega⟩
  ·split
   ·exact ⟨by show (_ : Int) ≤ restI _ _ / 2; omega, by show restI _ _ / 2 ≤ _; omega⟩
   ·exact ⟨by show (_ : Int) ≤ 0; omega, by show (0 : Int) ≤ _; omega⟩
theorem lnI_co {fv : List Int} {f : Frm} {K : List Kid} {L : List Itm} {fr n : Nat} (ht : NN f.tall) : CO (lnI fv f K L fr n).cross ∧ (∀ z ∈ (lnI fv f K L fr n).x, CO z) ∧ ∀ z ∈ (lnI fv f K L fr n).y, CO z := by
 refine ⟨?_, ?_, ?_⟩
 ·show CO (lnCross _ _ _);unfold lnCross;split
  ·exact ht.co
  ·have hfold : ∀ (l : List Int) (a : Int), CO a → (∀ z ∈ l, CO z) → CO (l.foldl max a) := by
    intro l
    induction l with
    | nil => intro a ha _; exact ha
    | cons z l ih => intro a ha hz; exact ih _ (by have := hz z (by simp); unfold CO at *; omega) fun w hw => hz w (by simp [hw])
   refine hfold _ _ (by unfold CO; omega) fun z hz => ?_;unfold lnHs at hz;obtain ⟨a, _, b, _, rfl⟩ := zip_mem hz;exact outI_co _ _
 ·show ∀ z ∈ spreadL _ _ _ _, CO z;exact rowI_co _ _ _ (spreadI_co (restI_in _ _)).1
 ·intro z hz;have hz : z ∈ lnY _ _ _ := hz;unfold lnY at hz;obtain ⟨a, _, rfl⟩ := List.mem_map.1 hz;exact acrossI_co
theorem Grown.len1 {h h1 : H} {v : S} {n0 e t : Nat} {xs : List S} (k : Grown h v n0 e 1 xs) (el : elemAt Try.prog t = some (e, 1)) {T : Sl} {x : Operand} (hx : ev T x = some (.one v)) {d : Option Tmp} {ty : TypeId} {ps : String} {af : Array Edge} {g : Option (Nat × Bool)} : execO Try.prog T h1 ⟨d, .call ⟨.builtin .len, #[x], #[t]⟩, ty, ps, af, g⟩ = some (.val (.one (.i .i64 (xs.length : Int))) h1) := by
 rcases k with ⟨rfl, rfl⟩ | ⟨q, n, rfl, h1, h2, h3, h4, h5, h6⟩
 ·exact ex_len0 el hx
 ·have : n = xs.length := by omega
  subst this; exact ex_len el hx
structure RowT (h0 h : H) (n0 wb mb : Nat) (X : Nat → Prop) (pf bb bo : Nat) (B : BoxT) (f : Frm) (x y a at_ : S) (HS AT : List Int) (LNS : List Ln) (pl : List Nat) (cc : Nat → Int × Int) (GS : List GeoT) (k : Nat) (l : List (GeoT × S)) : Prop where
 st : HgtS h0 h n0 wb mb X pf pf bb bo B f x .sl0 (([] ++ [(y, HS)]) ++ [(at_, AT)]) l [] 83 (f.cells bb bo) ⟨a, 113, 1, pl.map fun p => S.p p 0⟩
 ll : l.length = B.kids.length
 gs : l.map Prod.fst = cornerK cc k GS
 ones : ∀ (j p : Nat) (r : Ln), pl[j]? = some p → LNS[j]? = some r → OneAt h (NB h0 x .sl0 a) p r
theorem flat_get {α : Type} {g : Nat → Ln → List α} : ∀ {LNS : List Ln} {NS : List Int} {k i : Nat} {r : Ln}, (∀ (j : Nat) (r : Ln) (z : Int), LNS[j]? = some r → NS[j]? = some z → (g j r).length = z.toNat) → LNS.length = NS.length → LNS[k]? = some r → i < (g k r).length → ((LNS.mapIdx g).flatten)[ahead NS k + i]? = (g k r)[i]?
 | [], NS, k, i, r, h, hl, hr, hi => by simp at hr
 | q :: LNS, [], k, i, r, h, hl, hr, hi => by simp at hl
 | q :: LNS, z :: NS, 0, i, r, h, hl, hr, hi => by
  simp at hr; subst hr;rw [List.mapIdx_cons, List.flatten_cons, show ahead (z :: NS) 0 = 0 from rfl, Nat.zero_add, List.getElem?_append_left hi]
 | q :: LNS, z :: NS, k + 1, i, r, h, hl, hr, hi => by
  have h0 := h 0 q z rfl rfl;have ih := flat_get (g := fun j => g (j + 1)) (LNS := LNS) (NS := NS) (k := k) (i := i) (r := r) (fun j r z h1 h2 => h (j + 1) r z (by simpa using h1) (by simpa using h2)) (by simpa using hl) (by simpa using hr) hi;rw [List.mapIdx_cons, List.flatten_cons, show ahead (z :: NS) (k + 1) = z.toNat + ahead NS k from rfl, List.getElem?_append_right Om, h0, show z.toNat + ahead NS k + i - z.toNat = ahead NS k + i by omega];exact ih
theorem flat_getC {α : Type} {g : Ln → List α} {LNS : List Ln} {NS : List Int} {k i : Nat} {r : Ln} (h : ∀ (j : Nat) (r : Ln) (z : Int), LNS[j]? = some r → NS[j]? = some z → (g r).length = z.toNat) (hl : LNS.length = NS.length) (hr : LNS[k]? = some r) (hi : i < (g r).length) : (LNS.flatMap g)[ahead NS k + i]? = (g r)[i]? := by
 have := flat_get (g := fun _ => g) h hl hr hi;rw [show (LNS.mapIdx fun _ => g) = LNS.map g from List.ext_getElem? fun j => by rw [List.getElem?_mapIdx, List.getElem?_map]] at this;exact this
theorem rowY_get {LNS : List Ln} {NS AT : List Int} {k i : Nat} {r : Ln} {a y : Int} (h : ∀ (j : Nat) (r : Ln) (z : Int), LNS[j]? = some r → NS[j]? = some z → r.y.length = z.toNat) (hl : LNS.length = NS.length) (ha : AT[k]? = some a) (hA : AT.length = LNS.length) (hr : LNS[k]? = some r) (hy : r.y[i]? = some y) : (rowY LNS AT)[ahead NS k + i]? = some (plusI a [y]) := by
 obtain ⟨hi, _⟩ := gEi.1 hy;have := flat_get (g := fun j (l : Ln) => l.y.map fun y => plusI (AT.getD j 0) [y]) (i := i) (fun j r z h1 h2 => by rw [List.length_map]; exact h j r z h1 h2) hl hr (by rw [List.length_map]; exact hi);rw [List.getElem?_map, hy] at this;rw [List.getD_eq_getElem?_getD, ha] at this;unfold rowY;rw [← show _ = some (plusI a [y]) from this]
 congr 2
 refine List.ext_getElem? fun j => ?_;rw [List.getElem?_zipWith, List.getElem?_mapIdx]
 by_cases hj : j < LNS.length
 ·rw [List.getElem?_eq_getElem hj, List.getElem?_eq_getElem (show j < AT.length by omega), List.getD_eq_getElem?_getD, List.getElem?_eq_getElem (show j < AT.length by omega)]; rfl
 ·rw [List.getElem?_eq_none Om]; rfl
theorem len_le_sum : ∀ {ns : List Int}, (∀ z ∈ ns, 0 < z) → (ns.length : Int) ≤ sumL ns
 | [], _ => Int.le_refl _
 | n :: ns, h => by
  have := len_le_sum (ns := ns) (fun z hz => h z (by simp [hz]));have := h n (by simp);simp only [List.length_cons, sumL]; omega
theorem ahead_all : ∀ {ns : List Int}, (∀ z ∈ ns, 0 < z) → (ahead ns ns.length : Int) = sumL ns
 | [], _ => rfl
 | n :: ns, h => by
  have := ahead_all (ns := ns) (fun z hz => h z (by simp [hz]));have := h n (by simp);simp only [List.length_cons, ahead, sumL]; omega
end Go.Ai
