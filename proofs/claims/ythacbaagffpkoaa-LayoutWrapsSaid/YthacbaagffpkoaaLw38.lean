/-
LayoutWraps, part 38 of 48: FxLayX FxLayY FxLayC.
-/
import Derived.Test.YthacbaagffpkoaaLw37
set_option linter.unusedVariables false
set_option linter.unusedSimpArgs false
set_option maxRecDepth 100000
set_option maxHeartbeats 0
namespace Go.Ai
open Go.Proofs
theorem Cells.mono {h h1 : H} {b el : Nat} {xs : List S} (k : Cells h b el xs) (e : ∀ x, h.get b = some x → h1.get b = some x) : Cells h1 b el xs := by
 obtain ⟨cs, k1, k2⟩ := k;exact ⟨cs, e _ k1, k2⟩
theorem Fr.mono {h h1 : H} {n0 wb mb pf bb bo : Nat} {X : Nat → Prop} {B : BoxT} {f : Frm} (k : Fr h n0 wb mb X pf B bb bo f) (hn : h.next ≤ h1.next) (e : ∀ q x, q < h.next → h.get q = some x → h1.get q = some x) (hm : h1.may mb = true) : Fr h1 n0 wb mb X pf B bb bo f := by
 have l := k.lt;have lm := k.map.lt;exact ⟨k.map.mono hn (fun q x _ hq hx => e q x hq hx) (fun _ _ _ h => h) hm, k.box.mono fun q x hq hx => e q x Om hx, k.cf.mono fun x hx => e _ x l.2 hx, by omega, k.inner, k.tall, k.h⟩
theorem ItemsAt.mono {h h1 : H} {v : S} {L : List Itm} (k : ItemsAt h v L) (hn : h.next ≤ h1.next) (e : ∀ q x, h.get q = some x → h1.get q = some x) : ItemsAt h1 v L := by
 rcases k with k | ⟨b, o, c, ex, rfl, k1, k2⟩
 ·exact .inl k
 ·exact .inr ⟨b, o, c, ex, rfl, by omega, fun i x hx => row_mono (fun y => e b y) (k2 i x hx)⟩
section
variable {h0 h h1 : H} {n0 wb mb pf po bb bo pe : Nat} {X : Nat → Prop} {B : BoxT} {f : Frm} {x y : S} {ro : List (S × List Int)} {ns : List Int} {l : List (GeoT × S)} {oc : List S} {z : Gz}
theorem HgtS.dropZ (k : HgtS h0 h n0 wb mb X pf po bb bo B f x y ro l ns pe oc z) : HgtS h0 h n0 wb mb X pf po bb bo B f x y ro l ns pe oc := by
 have sub : ∀ q, (Own X x y po .sl0) q → (Own X x y po z.v) q := fun q hq => by
  rcases hq with h | h | h | h | h
  ·exact .inl h
  ·exact .inr (.inl h)
  ·exact .inr (.inr (.inl h))
  ·exact .inr (.inr (.inr (.inl h)))
  ·cases h
 exact ⟨k.fr.up (.refl (fun _ => True) h) (fun _ _ => trivial) (k.fr.map.mono (Nat.le_refl _) (fun _ _ _ _ h => h) (fun q _ _ h => sub q h) k.fr.map.may), k.hX, k.iv, k.co, k.mo, k.lo, k.so, k.sx, k.lf, k.gx.up (.refl (fun _ => True) h) (fun _ _ _ => trivial) (fun _ _ _ => trivial) (fun q h1 _ => ⟨h1.1, fun h => h1.2 (sub q h)⟩), k.gy, k.xy, k.up, k.ok, .nil, (fun q _ h => by cases h), (fun q _ h => by cases h)⟩
def Gz.at (t e : Nat) (cs : List S) : Gz := ⟨.sl t 0 1 1 cs.length false, e, cs.length, cs⟩
theorem HgtS.tempZ {h3 h4 h5 : H} {t e : Nat} {xs : List S} (k : HgtS h0 h n0 wb mb X pf po bb bo B f x y ro l ns pe oc) (ht : t = h.next) (u3 : Up (· < h.next) h h3) (u4 : Up (fun q => q < h3.next ∧ q ≠ mb) h3 h4) (m4 : MapOk h4 n0 wb mb (Beside (Own X x y po) t)) (p5 : Put h4 h5 t e xs) (hl : t < h4.next) (ok : Ok h5) : HgtS h0 h5 n0 wb mb X pf po bb bo B f x y ro l ns pe oc (Gz.at t e xs) := by
 have c := k.temp ht u3 u4 m4 p5 ok;have p3 := k.up.next;have p4 := k.fr.map.lt;have un := p5.up.next;have v3 := u3.next;have v4 := u4.next
 have sub : ∀ q, Own X x y po (Gz.at t e xs).v q → Beside (Own X x y po) t q := fun q hq => by
  rcases hq with h | h | h | h | h
  ·exact .inl (.inl h)
  ·exact .inl (.inr (.inl h))
  ·exact .inl (.inr (.inr (.inl h)))
  ·exact .inl (.inr (.inr (.inr (.inl h))))
  ·exact .inr (Option.some.inj h).symm
 have gne : ∀ q, S.blk x = some q → q < h.next := fun q hq => (k.gx.grown.lt hq).2
 have yne : ∀ q, S.blk y = some q → q < h.next := fun q hq => (k.gy.lt hq).2
 have m5 : MapOk h5 n0 wb mb (Own X x y po (Gz.at t e xs).v) := m4.mono un (fun q w hq _ hw => by
  rw [p5.up.get (show q ≠ t from hq.elim (fun h => by omega) fun h e => h (.inr e))]; exact hw) (fun q _ _ h => sub q h) (by rw [p5.up.may]; exact m4.may)
 refine ⟨c.fr.up (.refl (fun _ => True) h5) (fun _ _ => trivial) m5, c.hX, c.iv, c.co, c.mo, c.lo, c.so, c.sx, c.lf, ?_, c.gy, c.xy, c.up, c.ok, .inr ⟨t, 1, rfl, by omega, by rw [Nat.one_mul]; rfl, p5.cells, p5.may, by omega, by omega⟩, fun q h1 h2 => ?_, fun q h1 h2 => ?_⟩
 ·refine ⟨c.gx.grown, fun p hp => ?_⟩;have u15 : Up (fun q => q < h.next ∧ q ≠ mb) h h5 := (u3.mono fun q hq => hq.1).trans ((u4.mono fun q hq => ⟨by omega, hq.2⟩).trans (p5.up.mono fun q hq => by omega));refine (k.gx.kids p hp).up u15 (fun q h1 h2 => ⟨h2, by have := h1.1; omega⟩) fun q h1 h2 => ⟨h1.1, fun h => ?_⟩;rcases sub q h with h | h
  ·exact h1.2 h
  ·omega
 ·have := gne q h1; have : t = q := Option.some.inj h2; omega
 ·have := yne q h1; have : t = q := Option.some.inj h2; omega
theorem HgtS.setZ {t e : Nat} {xs ys : List S} (k : HgtS h0 h n0 wb mb X pf po bb bo B f x y ro l ns pe oc (Gz.at t e xs)) (p : Put h h1 t e ys) (hl : ys.length = xs.length) (hro : ∀ p ∈ ro, S.blk p.1 ≠ some t) : HgtS h0 h1 n0 wb mb X pf po bb bo B f x y ro l ns pe oc (Gz.at t e ys) := by
 have p1 := k.lo;have p2 := k.lf;have p3 := k.up.next;have p4 := k.fr.map.lt;have p5 := k.fr.lt;have hb : S.blk (Gz.at t e xs).v = some t := rfl;have hq := k.gz.lt hb;have un := p.up.next;have he : (Gz.at t e ys).v = (Gz.at t e xs).v := by unfold Gz.at; rw [hl]
 have m : MapOk h1 n0 wb mb (Own X x y po (Gz.at t e ys).v) := by
  rw [he]
  exact k.fr.map.mono un (fun r w hr _ hw => by
   rw [p.up.get (show r ≠ t from hr.elim (fun h => by omega) fun h e => h (.inr (.inr (.inr (.inr (by rw [e]; rfl))))))]; exact hw) (fun _ _ _ h => h) (by rw [p.up.may]; exact k.fr.map.may)
 refine ⟨k.fr.up p.up (fun r hr => by omega) m, k.hX, fun w hw => (k.iv w hw).upB p.up (fun r hr e => hro w hw (by rw [← e]; exact hr)), p.up.cells Om k.co, by rw [p.up.may]; exact k.mo, k.lo, k.so, k.sx, k.lf, ?_, k.gy.up p.up (fun r hr e => k.yz r hr (by rw [e]; rfl)), k.xy, k.up.trans (p.up.mono fun r hr => by omega), p.ok k.ok, .inr ⟨t, 1, rfl, by omega, by rw [Nat.one_mul]; rfl, p.cells, p.may, hq.1, by omega⟩, fun r h1 h2 => k.xz r h1 (by rw [← he]; exact h2), fun r h1 h2 => k.yz r h1 (by rw [← he]; exact h2)⟩;rw [he];exact k.gx.up p.up (fun r hr _ e => k.xz r hr (by rw [e]; rfl)) (fun r h1 _ e => h1.2 (.inr (.inr (.inr (.inr (by rw [e]; rfl)))))) (fun _ h _ => h)
end
theorem down_fn2 {spec : CallF} (hs : SpecLay spec) {h : H} {n0 wb mb pf bb bo : Nat} {X : Nat → Prop} {B : BoxT} {f : Frm} (ok : Ok h) (k : Fr h n0 wb mb (Own X .sl0 .sl0 pf) pf B bb bo f) (hX : ∀ q, X q → q < h.next) (hL : ∀ C ∈ B.kids, LayFn spec C) :
  WF Try.prog spec 73 [.one (.p wb 0), .one (.p pf 0)] h fun r h1 => ∃ v, r = .one v ∧ ItemsAt h1 v (downI f.inner (B.kids.map kidOf)) ∧ (∀ q, S.blk v = some q → h.next ≤ q) ∧ Fr h1 n0 wb mb (Own X .sl0 .sl0 pf) pf B bb bo f ∧ Up (fun q => q < h.next ∧ q ≠ mb ∧ q ≠ pf) h h1 ∧ Ok h1 :=
 (down_fn hs ok k hX hL).mono fun r h1 q => by
  obtain ⟨v, rfl, c⟩ := q;exact ⟨v, rfl, c.gz.items, fun q hq => (c.gz.lt hq).1, c.dropZ.fr, c.up, c.ok⟩
end Go.Ai
namespace Go.Ai
open Go.Proofs
theorem mapIdx_take {α β : Type} {f : Nat → α → β} {l : List α} {k : Nat} {x : α} (hx : l[k]? = some x) : (l.mapIdx f).take (k + 1) = (l.mapIdx f).take k ++ [f k x] := by
 obtain ⟨h1, rfl⟩ := gEi.1 hx;rw [List.take_succ_eq_append_getElem (by simpa using h1)]; simp
theorem corner_put {g : GeoT} {ks : S} {c : Int × Int} : (g.cells ks).take (0 + 2) ++ [ptS c.1 c.2] ++ (g.cells ks).drop (0 + 2 + 1) = (g.corner c).cells ks := by cases g; rfl
theorem GeosAt.asideZ {h h1 : H} {wb po t e e' : Nat} {X : Nat → Prop} {x y v : S} {xs cs : List S} {gs : List GeoT} (m : GeosAt h (Al wb (Beside (Own X x y po) t)) gs v) (p : Put h h1 t e xs) : GeosAt h1 (Al wb (Own X x y po (Gz.at t e' cs).v)) gs v :=
 m.up p.up (fun q h1 _ e => h1.2 (.inr e)) fun q h1 _ => ⟨h1.1, fun h => h1.2 (by
  rcases h with h | h | h | h | h
  ·exact .inl (.inl h)
  ·exact .inl (.inr (.inl h))
  ·exact .inl (.inr (.inr (.inl h)))
  ·exact .inl (.inr (.inr (.inr (.inl h))))
  ·exact .inr (Option.some.inj h).symm)⟩
theorem corner_kids {g : GeoT} {c : Int × Int} : (g.corner c).kids = g.kids := by cases g; rfl
theorem column_fn {spec : CallF} (hs : SpecLay spec) {h : H} {n0 wb mb pf bb bo : Nat} {X : Nat → Prop} {B : BoxT} {f : Frm} (ok : Ok h) (k : Fr h n0 wb mb (Own X .sl0 .sl0 pf) pf B bb bo f) (hX : ∀ q, X q → q < h.next) (hL : ∀ C ∈ B.kids, LayFn spec C) (h64 : B.kids.length ≤ 64) :
  WF Try.prog spec 58 [.one (.p wb 0), .one (.p pf 0)] h fun r h1 => ∃ x, r = .tup [(false, [x]), (false, [.i .i64 (columnI B.vals f (B.kids.map kidOf)).2])] ∧ GeosAt h1 (Al wb X) (columnI B.vals f (B.kids.map kidOf)).1 x ∧ Up (fun q => q < h.next ∧ q ≠ mb ∧ q ≠ pf) h h1 ∧ Fr h1 n0 wb mb X pf B bb bo f ∧ Ok h1 := by
 have hlt := k.lt;have bv := k.box.own;have hbb := bv.val.lt;have mlt := k.map.lt;have gv := bv.vok.bd 14 Om;have hgap : 0 ≤ vAt B.vals 14 ∧ vAt B.vals 14 ≤ 1099511627776 := ⟨gv.1, by have : vAt B.vals 14 ≤ 1073741824 := gv.2; omega⟩;refine WF_of Try.func58 rfl (hs.s _ _ _) (by rw [Try.ntmps58]; simp) (by rw [Try.ntmps58]; decide) ?_;rw [Try.ntmps58, Try.results58];simp only [Sl.setMany_cons, Sl.setMany_nil, Nat.zero_add, Nat.reduceAdd];have cf := k.cf;unfold Frm.cells at cf;have low : ∀ q, q < n0 → q < h.next ∧ q ≠ mb ∧ q ≠ pf := fun q hq => by omega
 have dok : ∀ z ∈ downI f.inner (B.kids.map kidOf), z.ok := fun z hz => by
  unfold downI at hz;obtain ⟨a, ha, rfl⟩ := List.mem_map.1 hz;obtain ⟨C, hC, rfl⟩ := List.mem_map.1 ha;obtain ⟨i, hi, hiC⟩ := List.mem_iff_getElem.1 hC;obtain ⟨kb, ko, kc, kx, hbk0, hkb, hbC0⟩ := k.box.kid (i := i) (C := C) (by rw [List.getElem?_eq_getElem hi, hiC]);have hCv := hbC0.own.vok;rw [kidOf_vals];have h11 : -1 ≤ vAt C.vals 11 ∧ vAt C.vals 11 ≤ 1099511627776 := hCv.bd 11 Om;refine itemI_ok hCv ?_ (hCv.bd 7 Om) (hCv.bd 8 Om);split
  ·exact layI_h hCv ⟨k.inner, by omega, by omega⟩
  ·omega
 have dlen : (downI f.inner (B.kids.map kidOf)).length = B.kids.length := by unfold downI; simp
 (repeat refine zS ?_); refine zR ?_
 iterate 2 (refine VO ?_)
 refine zN ?_; (repeat refine zS ?_);refine W_drawn dr58_1 (by kernel_rfl) ok.floor ?_;unfold dr58_1
 iterate 5 (refine zO rfl ?_)
 (refine IL rfl zF Gs0 (Gd1 @cf.row) ?_)
 refine WI_call rfl rfl (doCall_fn (ee) (by simp)) Dc ((down_fn2 hs (X := X) (ok.fenced (fun b hb => OffA) (fun b hb => OffA) ok.floor) (k.mono (Nat.le_refl _) (fun q x hq hx => by rw [fenced_get OffA]; exact hx) (fenced_may OffA OffA (H.may_iff k.map.may).1.1 k.map.may)) hX hL).mono ?_);rintro _ h1' ⟨v, rfl, i1, b1, k1, u1, o1⟩;have i2 : ItemsAt (h.back h1') v _ := i1.mono (Nat.le_refl _) fun q x hx => back_get u1 hx
 have u2 : Up (fun q => q < h.next ∧ q ≠ mb ∧ q ≠ pf) h (h.back h1') := u1.back;have o2 : Ok (h.back h1') := ok.back u1;have k2 : Fr (h.back h1') n0 wb mb (Own X .sl0 .sl0 pf) pf B bb bo f := k1.mono (Nat.le_refl _) (fun q x hq hx => back_get u1 hx) (by rw [u2.may]; exact k.map.may);have b2 : ∀ q, S.blk v = some q → h.next ≤ q := b1;have n2 : h.next ≤ h1'.next := u1.next;have e2 : (h.back h1').next = h1'.next := rfl;clear i1 u1 o1 k1 b1;generalize h.back h1' = h2 at *
 have c2 : HgtS h h2 n0 wb mb X pf pf bb bo B f .sl0 .sl0 [] [] [] 83 (f.cells bb bo) :=
  ⟨k2, hX, (fun p hp => by cases hp), k2.cf, .inl rfl, hlt, (fun p hp => by cases hp), (fun p hp => by cases hp), hlt.2, .nil, .nil, (fun q hq => by cases hq), u2, o2, .nil, (fun q hq => by cases hq), (fun q hq => by cases hq)⟩
 have hnv := u2.next;refine CP rfl (ee) (v_fn hs ((bv.val.up u2 low).fenced fun q hq => OffA) (i := 14) (bv.vok.at Om).1) ?_
 iterate 2 (refine zO rfl ?_)
 refine WI_nil ?_; (repeat refine zS ?_);refine zR ?_
 iterate 2 (refine VO ?_)
 have cf2 := k2.cf;unfold Frm.cells at cf2;have lok : ∀ room, NN room → LineOk (downI f.inner (B.kids.map kidOf)) (vAt B.vals 14) room := fun room hr => ⟨dok, by omega, hgap, hr⟩
 have hsl : (colSizes B.vals f (B.kids.map kidOf)).length = B.kids.length := by
  unfold colSizes;split
  ·rw [solve_length]; exact dlen
  ·unfold plains; rw [List.length_map]; exact dlen
 have hsn : ∀ s ∈ colSizes B.vals f (B.kids.map kidOf), NN s := by
  unfold colSizes;split
  ·exact solve_nn dok
  ·exact plains_nn dok
 refine zN ?_;refine zS ?_;refine W_cut (fun T h3 => ∃ s a, T.get 0 = some (.one (.p wb 0)) ∧ T.get 1 = some (.one (.p pf 0)) ∧ T.get 4 = some (.one .sl0) ∧ T.get 8 = some (.one s) ∧ T.get 9 = some (.one a) ∧ Grown h3 s h2.next 3 1 (nums (colSizes B.vals f (B.kids.map kidOf))) ∧ Grown h3 a h2.next 3 1 (nums (colAt B.vals f (B.kids.map kidOf))) ∧ HgtS h h3 n0 wb mb X pf pf bb bo B f .sl0 .sl0 [] [] [] 83 (f.cells bb bo)) ?_ ?_
 ·(repeat refine zS ?_); refine zR ?_
  iterate 3 (refine VO ?_)
  (refine VX (Gd1 @cf2.row) ?_)
  (refine VX (zB ee ee in_neq) ?_)
  refine zN ?_; (repeat refine zS ?_);refine zC (ee) (fun hc => ?_) (fun hc => ?_)
  ·have hc : f.h ≠ -1 := by simpa using hc
   have hS : colSizes B.vals f (B.kids.map kidOf) = solveI prtI (downI f.inner (B.kids.map kidOf)) (vAt B.vals 14) f.tall := by unfold colSizes; rw [if_pos hc]
   have hA : colAt B.vals f (B.kids.map kidOf) = spreadL (colSizes B.vals f (B.kids.map kidOf)) (vAt B.vals 14) f.tall (vAt B.vals 15) := by unfold colAt; rw [if_pos hc]
   (repeat refine zS ?_); refine zR ?_
   iterate 5 (refine VO ?_)
   (refine VX (Gd1 @cf2.row) ?_)
   refine WO_fn (ee) (by simp) Dc ((solve_fn hs.flex (parts_ok hs.sort) o2 (lok _ k.tall) i2).mono ?_);rintro _ h3 ⟨s, rfl, g3, u3, o3⟩;rw [← hS] at g3;have c3 := c2.upLt u3 o3;have hn3 := u3.next;have cf3 := c3.fr.cf;have bv3 := c3.fr.box.own;unfold Frm.cells at cf3;refine VO ?_;refine zN ?_; (repeat refine zS ?_);refine W_drawn dr58_5 (by kernel_rfl) o3.floor ?_;unfold dr58_5
   iterate 10 (first | (refine IL rfl zF Gs0 (Gd1 @cf3.row) ?_) | (refine zO rfl ?_))
   refine CP rfl (ee) (v_fn hs (bv3.val.fenced fun q hq => OffA) (i := 15) (bv3.vok.at Om).1) ?_;refine CG rfl (ee) o3 (spreadL_fn hs (o3.fenced (fun b hb => OffA) (fun b hb => OffA) o3.floor) (g3.ints.fenced fun b hb => by have := (g3.lt hb).2; (try simp only [cond_true, cond_false]); repeat (first | exact Off.nil | refine Off.seen rfl ?_ | refine Off.off Om ?_)) Om (fun z hz => (hsn z hz).co) (co_nn hgap) k.tall.co) fun a h4 g4 u4 o4 hn4 => ?_;rw [← hA] at g4;have u4 : Up (· < h3.next) h3 h4 := u4
   (refine zO rfl ?_)
   exact WI_nil ⟨by trivial, s, a, gs, gs, gs, gs, gs, g3.up u4 (fun q hq => (g3.lt hq).2), g4.from0 hn3, c3.upLt u4 o4⟩
  ·have hc : ¬ f.h ≠ -1 := by simpa using hc
   have hS : colSizes B.vals f (B.kids.map kidOf) = plains (downI f.inner (B.kids.map kidOf)) := by unfold colSizes; rw [if_neg hc]
   have hA : colAt B.vals f (B.kids.map kidOf) = rowI [vAt B.vals 14] 0 (colSizes B.vals f (B.kids.map kidOf)) := by unfold colAt; rw [if_neg hc]
   (repeat refine zS ?_); refine zR ?_
   refine VO ?_;refine WO_fn (ee) (by simp) Dc ((sizes_fn (hs.s _) (hs.s _) (hs.s _) o2 i2 Om).mono ?_);rintro _ h3 ⟨s, rfl, g3, u3, o3⟩;rw [← hS] at g3;have c3 := c2.upLt u3 o3;have hn3 := u3.next;refine VO ?_;refine zN ?_; (repeat refine zS ?_);refine zR ?_
   iterate 2 (refine VO ?_)
   refine WO_fn (ee) (by simp) Dc ((pile_fn hs o3 g3.ints Om (fun z hz => (hsn z hz).co) (co_nn hgap)).mono ?_);rintro _ h4 ⟨a, rfl, g4, u4, o4⟩;rw [← hA] at g4;refine VO ?_;exact zN ⟨rfl, s, a, gs, gs, gs, gs, gs, g3.up u4 (fun q hq => (g3.lt hq).2), g4.from0 hn3, c3.upLt u4 o4⟩
 rintro T h3 ⟨s, a, t0, t1, t4, t8, t9, gs3, ga3, c3⟩;have hn3 := c3.up.next;have sb : ∀ q, S.blk s = some q → h.next ≤ q := fun q hq => by have := (gs3.lt hq).1; omega
 have ab : ∀ q, S.blk a = some q → h.next ≤ q := fun q hq => by have := (ga3.lt hq).1; omega
 have c4 := (c3.addRo (v := s) (gs3.intsIn (m := wb + 1) Om) (fun e => by have := sb _ e; omega) (fun q _ => ⟨fun e => (by cases e), fun e => (by cases e)⟩)).addRo (v := a) (ga3.intsIn (m := wb + 1) Om) (fun e => by have := ab _ e; omega) (fun q _ => ⟨fun e => (by cases e), fun e => (by cases e)⟩)
 have hAl : (colAt B.vals f (B.kids.map kidOf)).length = B.kids.length := by
  unfold colAt spreadL;split
  ·rw [rowI_len]; exact hsl
  ·rw [rowI_len]; exact hsl
 have hAn : ∀ z ∈ colAt B.vals f (B.kids.map kidOf), CO z := by
  unfold colAt spreadL;split
  ·exact rowI_co _ _ _ (spreadI_co (restI_in _ _)).1
  ·exact rowI_co _ _ _ (by unfold CO; omega)
 have hB2 : (columnI B.vals f (B.kids.map kidOf)).2 = endI (colAt B.vals f (B.kids.map kidOf)) (colSizes B.vals f (B.kids.map kidOf)) := rfl;have hB1 : (columnI B.vals f (B.kids.map kidOf)).1 = (colG f (B.kids.map kidOf) (colSizes B.vals f (B.kids.map kidOf))).mapIdx fun i g => g.corner (putI B.vals (kv (B.kids.map kidOf) i) (acrossI (outI (vAt (kv (B.kids.map kidOf) i) 12) g.w) f.inner (vAt B.vals 16)).1, putI B.vals (kv (B.kids.map kidOf) i) ((colAt B.vals f (B.kids.map kidOf)).getD i 0)) := rfl
 rw [hB2, hB1];clear gs3 ga3 c3 c2 cf2 lok dok dlen i2;generalize colAt B.vals f (B.kids.map kidOf) = AT at *;generalize colSizes B.vals f (B.kids.map kidOf) = SZ at *;have hGl : (colG f (B.kids.map kidOf) SZ).length = B.kids.length := by unfold colG; simp; omega
 refine zS ?_
 refine W_cut (fun T h4 => ∃ x l, T.get 4 = some (.one x) ∧ T.get 8 = some (.one s) ∧ T.get 9 = some (.one a) ∧ l.map Prod.fst = (colG f (B.kids.map kidOf) SZ).mapIdx (fun i g => g.corner (putI B.vals (kv (B.kids.map kidOf) i) (acrossI (outI (vAt (kv (B.kids.map kidOf) i) 12) g.w) f.inner (vAt B.vals 16)).1, putI B.vals (kv (B.kids.map kidOf) i) (AT.getD i 0))) ∧
  HgtS h h4 n0 wb mb X pf pf bb bo B f x .sl0 (([] ++ [(s, SZ)]) ++ [(a, AT)]) l [] 83 (f.cells bb bo)) ?_ ?_
 ·have hsi : IntsAt h3 s SZ := (c4.iv (s, SZ) (by simp)).ints
  (repeat refine zS ?_); refine zR ?_
  (refine VX (Ga1 @t8) ?_)
  refine zV (hsi.len (Gt1 @t8)) Dc ?_;rw [hsl];refine VO ?_;refine zN ?_; (repeat refine zS ?_)
  refine zK (W_rounds (fun j T h1 => ∃ i x l, j = B.kids.length - i ∧ i ≤ B.kids.length ∧ T.get 0 = some (.one (.p wb 0)) ∧ T.get 1 = some (.one (.p pf 0)) ∧ T.get 4 = some (.one x) ∧ T.get 8 = some (.one s) ∧ T.get 9 = some (.one a) ∧ T.get 54 = some (.one s) ∧ T.get 55 = some (.one (.i .i64 (B.kids.length : Int))) ∧ T.get 56 = some (.one (.i .i64 (i : Int))) ∧ l.map Prod.fst = ((colG f (B.kids.map kidOf) SZ).mapIdx (fun i g => g.corner (putI B.vals (kv (B.kids.map kidOf) i) (acrossI (outI (vAt (kv (B.kids.map kidOf) i) 12) g.w) f.inner (vAt B.vals 16)).1, putI B.vals (kv (B.kids.map kidOf) i) (AT.getD i 0)))).take i ∧
   HgtS h h1 n0 wb mb X pf pf bb bo B f x .sl0 (([] ++ [(s, SZ)]) ++ [(a, AT)]) l [] 83 (f.cells bb bo)) ?_ B.kids.length _ _ ?_)
  rotate_left
  ·exact ⟨0, .sl0, [], rfl, Nat.zero_le _, gt t0, gt t1, gt t4, gt t8, gt t9, gs, gs, gs, by simp, c4⟩
  clear c4 hsi;rintro j T h1 ⟨i, x, l, rfl, hin, t0, t1, t4, t8, t9, t54, t55, t56, hl, c1⟩
  (repeat refine zS ?_); refine zR ?_
  (refine VX (zB (Gs2 @t55 @t56) (Gs2 @t55 @t56) zL) ?_)
  refine zN ?_; (repeat refine zS ?_);refine zC (ee) (fun hlt => W_skip ?_) (fun hge => W_exit ?_)
  ·have hi' : (i : Int) < (B.kids.length : Int) := by simpa using hlt
   have hi' : i < B.kids.length := by omega
   obtain ⟨C, hC⟩ : ∃ C, B.kids[i]? = some C := ⟨_, List.getElem?_eq_getElem hi'⟩;obtain ⟨sz, hS⟩ : ∃ sz, SZ[i]? = some sz := ⟨_, List.getElem?_eq_getElem Om⟩;have hat : AT[i]? = some (AT.getD i 0) := getD_get Om;have han := hAn _ (List.mem_of_getElem? hat);have hLC := hL C (List.mem_of_getElem? hC);have hszn := hsn sz (List.mem_of_getElem? hS)
   have hGi : (colG f (B.kids.map kidOf) SZ)[i]? = some (layI C f.inner (-1) (withinI sz (vAt C.vals 12))) := by
    unfold colG;rw [List.getElem?_zipWith, List.getElem?_map, hC, hS];show some ((kidOf C).lay _ _ (withinI sz (vAt (kidOf C).vals 12))) = _;rw [kidOf_vals]; rfl
   have hFG := mapIdx_take (f := fun i (g : GeoT) => g.corner (putI B.vals (kv (B.kids.map kidOf) i) (acrossI (outI (vAt (kv (B.kids.map kidOf) i) 12) g.w) f.inner (vAt B.vals 16)).1, putI B.vals (kv (B.kids.map kidOf) i) (AT.getD i 0))) hGi;simp only [kv_of hC] at hFG;have hFl : ((colG f (B.kids.map kidOf) SZ).mapIdx (fun i (g : GeoT) => g.corner (putI B.vals (kv (B.kids.map kidOf) i) (acrossI (outI (vAt (kv (B.kids.map kidOf) i) 12) g.w) f.inner (vAt B.vals 16)).1, putI B.vals (kv (B.kids.map kidOf) i) (AT.getD i 0)))).length = B.kids.length := by rw [List.length_mapIdx]; exact hGl
   generalize (colG f (B.kids.map kidOf) SZ).mapIdx (fun i (g : GeoT) => g.corner (putI B.vals (kv (B.kids.map kidOf) i) (acrossI (outI (vAt (kv (B.kids.map kidOf) i) 12) g.w) f.inner (vAt B.vals 16)).1, putI B.vals (kv (B.kids.map kidOf) i) (AT.getD i 0))) = FG at *;obtain ⟨kb, ko, kc, kx, hbk0, hkb, hbC0⟩ := k.box.kid hC;have hbk : h1.row bb (bo + 3) 1 = some [.sl kb ko B.kids.length kc 4 kx] := by rw [c1.up.row (low bb hbb)]; exact hbk0
   have hbC : BoxAt h1 n0 C kb (ko + i * 4) := hbC0.mono fun q x hq hx => by rw [c1.up.get (low q hq)]; exact hx
   have hCv := hbC0.own.vok;have hCm := (hCv.at (i := 12) Om).2.2.2
   have rd : ∀ {v : S} {m : List Int} {z : Int}, (v, m) ∈ ([] ++ [(s, SZ)]) ++ [(a, AT)] → m[i]? = some z → ∃ b c ex, v = .sl b 0 m.length c 1 ex ∧ b < h1.next ∧ h1.row b i 1 = some [.i .i64 z] := fun {v m z} hm hz => by
    rcases c1.iv (v, m) hm with ⟨q, _⟩ | ⟨b, c, ex, q, _, q2, q3⟩
    ·simp only at q; rw [q] at hz; simp at hz
    ·exact ⟨b, c, ex, q, q2, q3 i z hz⟩
   obtain ⟨sb', sc, sx, hsv, hsbl, hsr⟩ := rd (v := s) (m := SZ) (by simp) hS;obtain ⟨ab', ac, ax, hav, habl, har⟩ := rd (v := a) (m := AT) (by simp) hat;rw [hsv] at t54;have cf1 := c1.fr.cf;have bv1 := c1.fr.box.own;have plt := c1.fr.lt;have mlt1 := c1.fr.map.lt;have hn1 := c1.up.next;have hq : QOk f.inner (-1) (withinI sz (vAt C.vals 12)) := ⟨k.inner, by omega, by have := withinI_nn sz (vAt C.vals 12); omega⟩;unfold Frm.cells at cf1
   repeat refine zS ?_
   refine W_cut (fun T2 h2 => ∃ x2 l2, T2.get 0 = some (.one (.p wb 0)) ∧ T2.get 1 = some (.one (.p pf 0)) ∧ T2.get 4 = some (.one x2) ∧ T2.get 8 = some (.one s) ∧ T2.get 9 = some (.one a) ∧ T2.get 54 = some (.one s) ∧ T2.get 55 = some (.one (.i .i64 (B.kids.length : Int))) ∧ T2.get 56 = some (.one (.i .i64 (i : Int))) ∧ l2.map Prod.fst = FG.take (i + 1) ∧
    HgtS h h2 n0 wb mb X pf pf bb bo B f x2 .sl0 (([] ++ [(s, SZ)]) ++ [(a, AT)]) l2 [] 83 (f.cells bb bo)) ?_ ?_
   ·refine zK ?_
    (repeat refine zS ?_); refine zR ?_
    iterate 5 (first | (refine VX (Gd2 @t54 @t56) ?_) | (refine VX (Gd3 @hsr @t54 @t56) ?_) | (refine VX (Ga2 @t54 @t56) ?_))
    refine zN ?_; (repeat refine zS ?_);refine zR ?_
    iterate 10 (first | (refine VX (Gd3 @cf1.row @hbk @t1) ?_) | (refine VX (Gd1 @t1) ?_) | (refine VX (Ga1 @t1) ?_))
    refine zN ?_; (repeat refine zS ?_);refine W_drawn dr58_12 (by kernel_rfl) c1.ok.floor ?_;unfold dr58_12
    iterate 8 (first | (refine IL rfl zF (Gs2 @t0 @t1) (Gd1 @cf1.row) ?_) | (refine IX rfl (Ga2 @t0 @t1) ?_))
    refine WI_al rfl zb37 rfl c1.ok Dc fun h2 n2 => ?_;have e2 := n2.next;refine CP rfl (ee) (v_fn hs ((hbC.own.val.up n2.up fun q hq => by omega).fenced fun q hq => OffA) (i := 12) (hCv.at Om).1) ?_;refine CV rfl (ee) n2.ok (within2_fn hs (n2.ok.fenced (fun b hb => OffA) (fun b hb => OffA) n2.ok.floor) hszn.co hCm) fun h3 u3 o3 hn3 => ?_;have u3 : Up (· < h2.next) h2 h3 := u3;have u13 : Up (· < h1.next) h1 h3 := n2.up.trans (u3.mono fun q hq => by omega);refine WI_val (v := .agg [.p kb (ko + i * 4), .i .i64 f.inner, .i .i64 (-1), .i .i64 (withinI sz (vAt C.vals 12))]) rfl zF rfl (by rw [ex_build]; exact bd_of (by kernel_rfl : placesOf Try.prog 75 = some [(0, 1), (1, 1), (2, 1), (3, 1)]) zb75 (by simp only [evParts, go_sem, ↓reduceIte, Nat.reduceEqDiff]; rfl) rfl) Dc ?_;refine CLay (h0 := h1) (X := Beside (Own X x .sl0 pf) h1.next) rfl (Gt1 @t0) o3 (o3.fenced (fun b hb => OffA) (fun b hb => OffA) o3.floor) (c1.fr.map.beside (Nat.le_refl _)) (fun q hq => ?_) u13 (fun q hq => OffA) OffA (H.may_iff (c1.fr.map.up u13).may).1.1 hbC hq hLC fun ks h4 g4 u4 m4 o4 hn4 => ?_
    ·rcases hq with hq | hq
     ·have := c1.own hq; omega
     ·omega
    have c24 := u4.cells (b := h1.next) ⟨by omega, by omega⟩ (u3.cells (show h1.next < h2.next by omega) n2.cells);have m4t : h4.may h1.next = true := by rw [u4.may, u3.may]; exact n2.may
    refine WI_storeA rfl (ee) (ee) sz37 (GeoT.cells_len _ _) (fun e => by have := congrArg List.length e; rw [GeoT.cells_len] at this; cases this) c24 m4t (by rw [GeoT.cells_len]; simp [V.cells]) OffA OffA (H.may_iff m4t).1.1 fun h5 p5 => ?_;have p5 := p5.whole (by rw [GeoT.cells_len]; rfl);have e5 := p5.next;have o5 := p5.ok o4;have c5 := c1.tempZ rfl u13 u4 m4 p5 Om o5;have g5 : GeosAt h5 (Al wb (Own X x .sl0 pf (Gz.at h1.next 37 ((layI C f.inner (-1) (withinI sz (vAt C.vals 12))).cells ks)).v)) _ ks := g4.asideZ p5;have r5 : h5.row h1.next 0 5 = some ((layI C f.inner (-1) (withinI sz (vAt C.vals 12))).cells ks) := by have := p5.cells.all; rw [GeoT.cells_len] at this; exact this
    have gc5 := p5.cells;have gm5 := p5.may;clear g4 m4 u4 c24;have hW := layI_w hCv hq;have hH := layI_h hCv hq;generalize layI C f.inner (-1) (withinI sz (vAt C.vals 12)) = G at *;refine WI_nil ?_; (repeat refine zS ?_);refine zR ?_
    (refine VX (Gd1 @r5) ?_)
    refine WO_fn (ee) (by simp) Dc ((size_fnG hs o5 hW hH).mono ?_);rintro _ h6 ⟨rfl, u6, o6⟩;have e6 := u6.next;have c6 := c5.upLt u6 o6;have g6 := g5.up u6 (fun q _ h => h) fun _ h _ => h
    have gc6 := u6.cells (show h1.next < h5.next by omega) gc5
    iterate 5 (refine VO ?_)
    refine zN ?_; (repeat refine zS ?_);have cf6 := c6.fr.cf;have bv6 := c6.fr.box.own;have plt6 := c6.fr.lt;have hn6 := c6.up.next;unfold Frm.cells at cf6;refine W_drawn dr58_14 (by kernel_rfl) c6.ok.floor ?_;unfold dr58_14
    iterate 10 (first | (refine IL rfl zF (Gs1 @t1) (Gd1 @cf6.row) ?_) | (refine IX rfl (Ga1 @t1) ?_))
    refine WI_al rfl zb121 rfl c6.ok Dc fun h7 n7 => ?_;have e7 := n7.next;refine CV rfl (ee) n7.ok (outer_fn hs (n7.ok.fenced (fun b hb => OffA) (fun b hb => OffA) n7.ok.floor) (((hbC0.own.val.up c6.up low).up n7.up fun q hq => by omega).fenced fun q hq => OffA) hCv hW.co) fun h8 u8 o8 hn8 => ?_;have u8 : Up (· < h7.next) h7 h8 := u8;have u68 : Up (· < h6.next) h6 h8 := n7.up.trans (u8.mono fun q hq => by omega);refine CP rfl (ee) (v_fn hs ((bv6.val.up u68 fun q hq => by omega).fenced fun q hq => OffA) (i := 16) (bv6.vok.at Om).1) ?_;refine CV rfl (ee) o8 (across_fn hs (o8.fenced (fun b hb => OffA) (fun b hb => OffA) o8.floor) (outI_co _ _) k.inner.co) fun h9 u9 o9 hn9 => ?_;have u9 : Up (· < h8.next) h8 h9 := u9;have u69 : Up (· < h6.next) h6 h9 := u68.trans (u9.mono fun q hq => by omega);have pc9 := u9.cells (show h6.next < h8.next by omega) (u8.cells (show h6.next < h7.next by omega) n7.cells);have pm9 : h9.may h6.next = true := by rw [u9.may, u8.may]; exact n7.may
    refine WI_storeA rfl (ee) (ee) sz121 rfl (by simp) pc9 pm9 (by simp [V.cells]) OffA OffA (H.may_iff pm9).1.1 fun h10 p10 => ?_;have p10 := p10.whole rfl;have e10 := p10.next;have o10 := p10.ok o9;have u6x : Up (fun q => q < h6.next) h6 h10 := u69.trans (p10.up.mono fun q hq => by omega);have c10 := c6.upLt u6x o10;have g10 := g6.up u6x (fun q _ h => h) fun _ h _ => h
    have gc10 := u6x.cells (show h1.next < h6.next by omega) gc6;have gm10 : h10.may h1.next = true := by rw [u6x.may, u6.may]; exact gm5
    have pr10 := p10.cells;have cf10 := c10.fr.cf;have bv10 := c10.fr.box.own;have plt10 := c10.fr.lt;have hn10 := c10.up.next;have rf10 : h10.row pf 0 1 = some [.p bb bo] := by unfold Frm.cells at cf10; exact cf10.at1 rfl
    have har10 : h10.row ab' i 1 = some [.i .i64 (AT.getD i 0)] := by
     rcases c10.iv (a, AT) (by simp) with ⟨q, _⟩ | ⟨b, c, ex, q, _, q2, q3⟩
     ·simp only at q; rw [q] at hat; simp at hat
     ·simp only at q; rw [hav] at q; cases q; exact q3 i _ hat
    rw [hav] at t9;refine WI_nil ?_; (repeat refine zS ?_);refine W_drawn dr58_15 (by kernel_rfl) c10.ok.floor ?_;unfold dr58_15
    iterate 8 (first | (refine IL rfl zF (Gs2 @t1 @t9) (Gd2 @pr10.row @har10) ?_) | (refine IX rfl (Gd2 @t1 @t9) ?_) | (refine IX rfl (Ga2 @t1 @t9) ?_))
    refine CV rfl (ee) c10.ok (put_fn hs (n0 := n0) (f := f) (fv := B.vals) (kv := C.vals) (x := (acrossI (outI (vAt C.vals 12) G.w) f.inner (vAt B.vals 16)).1) (y := AT.getD i 0) (c10.ok.fenced (fun b hb => OffA) (fun b hb => OffA) c10.ok.floor) (by simp only [fenced_next]; omega) (by rw [fenced_row OffA]; exact rf10) (by simp only [fenced_next]; omega) (bv10.val.fenced fun q hq => OffA) bv.vok ((hbC0.own.val.up c10.up low).fenced fun q hq => OffA) hCv (by
     have := restI_in f.inner (outI (vAt C.vals 12) G.w);have := div_co (c := 2) this Om;unfold acrossI CO;split
     ·exact ⟨by show (_ : Int) ≤ 0; omega, by show (0 : Int) ≤ _; omega⟩
     ·split
      ·exact ⟨by show (_ : Int) ≤ restI _ _; omega, by show restI _ _ ≤ _; omega⟩
      ·split
       ·exact ⟨by show (_ : Int) ≤ restI _ _ / 2; omega, by show restI _ _ / 2 ≤ _; omega⟩
       ·exact ⟨by show (_ : Int) ≤ 0; omega, by show (0 : Int) ≤ _; omega⟩) han) fun h11 u11 o11 hn11 => ?_
    have u11 : Up (· < h10.next) h10 h11 := u11;have c11 := c10.upLt u11 o11;have g11 := g10.up u11 (fun q _ h => h) fun _ h _ => h
    have gc11 := u11.cells (show h1.next < h10.next by omega) gc10;have gm11 : h11.may h1.next = true := by rw [u11.may]; exact gm10
    (refine zO rfl ?_)
    refine WI_store1 rfl (ee) (ee) sz34 gc11 gm11 (by rw [GeoT.cells_len]; omega) OffA OffA (H.may_iff gm11).1.1 fun h12 p12 => ?_;have p12 : Put h11 h12 h1.next 37 ((G.corner (putI B.vals C.vals (acrossI (outI (vAt C.vals 12) G.w) f.inner (vAt B.vals 16)).1, putI B.vals C.vals (AT.getD i 0))).cells ks) := by rw [← corner_put]; exact p12
    have e12 := p12.next;have c12 := c11.setZ p12 (by rw [GeoT.cells_len, GeoT.cells_len]) (fun p hp e => by have := (c1.iv p hp).blk e; omega)
    have g12 : GeosAt h12 (Al wb (Own X x .sl0 pf (Gz.at h1.next 37 ((G.corner (putI B.vals C.vals (acrossI (outI (vAt C.vals 12) G.w) f.inner (vAt B.vals 16)).1, putI B.vals C.vals (AT.getD i 0))).cells ks)).v)) (G.corner (putI B.vals C.vals (acrossI (outI (vAt C.vals 12) G.w) f.inner (vAt B.vals 16)).1, putI B.vals C.vals (AT.getD i 0))).kids ks := by
     rw [corner_kids];refine g11.up p12.up (fun q h1 _ e => h1.2 (.inr (.inr (.inr (.inr (by rw [e]; rfl)))))) fun q h1 _ => ⟨h1.1, fun h => h1.2 ?_⟩;rcases h with h | h | h | h | h
     ·exact .inl h
     ·exact .inr (.inl h)
     ·exact .inr (.inr (.inl h))
     ·exact .inr (.inr (.inr (.inl h)))
     ·exact .inr (.inr (.inr (.inr h)))
    generalize G.corner (putI B.vals C.vals (acrossI (outI (vAt C.vals 12) G.w) f.inner (vAt B.vals 16)).1, putI B.vals C.vals (AT.getD i 0)) = G1 at *;have r12 : h12.row h1.next 0 5 = some (G1.cells ks) := by have := p12.cells.all; rw [GeoT.cells_len] at this; exact this
    have hn12 := c12.up.next;have hll : l.length = i := by have := congrArg List.length hl; rw [List.length_map] at this; rw [this, List.length_take, hFl]; omega
    refine WI_nil ?_; (repeat refine zS ?_);refine zR ?_
    (refine VX (Ga1 @t4) ?_)
    (refine VX (Gd2 @r12 @t4) ?_)
    refine WO_bsA el35 ze35 rfl Dc Dc (ee) (GeoT.cells_len _ _) c12.ok Dc fun h13 n13 => ?_;have c13 := c12.upLt n13.up n13.ok;have g13 := g12.up n13.up (fun q _ h => h) fun _ h _ => h
    have hn13 := c13.up.next;refine WO_app (n0 := h.next) ap35_35 (Gt1 @t4) (ee) n13.cells (GeoT.cells_len _ _) c13.gx.grown n13.ok hn13 (m := i) (by rw [flatG_len, hll]) Om Om Dc fun x14 h14 w14 => ?_;have c14 := (c13.moreX w14 g13).dropZ;refine VO ?_;exact zN ⟨rfl, x14, l ++ [(G1, ks)], gt t0, gt t1, gs, gt t8, (Gu2 @t9 @hav), (Gu2 @t54 @hsv), gt t55, gt t56, by rw [List.map_append, hl, hFG]; rfl, c14⟩
   ·rintro T2 h2 ⟨x2, l2, t0, t1, t4, t8, t9, t54, t55, t56, hl2, c2⟩;refine zR ?_
    (refine VX (zB (Gs1 @t56) (Gs1 @t56) zA) ?_; (try rw [zI Om Om]))
    (refine VX (Ga1 @t56) ?_)
    exact zN ⟨B.kids.length - (i + 1), by omega, i + 1, x2, l2, rfl, hi', gt t0, gt t1, gt t4, gt t8, gt t9, gt t54, gt t55, gs, hl2, c2⟩
  ·have hge2 : ¬ (i : Int) < (B.kids.length : Int) := by simpa using hge
   have hiN : i = B.kids.length := by omega
   rw [hiN, List.take_of_length_le (by rw [List.length_mapIdx]; omega)] at hl;exact ⟨fun _ => ⟨rfl, x, l, t4, t8, t9, hl, c1⟩, fun hne => absurd rfl hne⟩
 rintro T h4 ⟨x, l, t4, t8, t9, hl, c4'⟩;have hi1 : IntsAt h4 a AT := (c4'.iv (a, AT) (by simp)).ints;have hi2 : IntsAt h4 s SZ := (c4'.iv (s, SZ) (by simp)).ints;have c4n := c4'.up.next
 (repeat refine zS ?_); refine zR ?_
 iterate 3 (refine VX (Ga3 @t4 @t8 @t9) ?_)
 refine WO_fn (ee) hi1.pair Dc ((end_fn hs c4'.ok hi1 hi2 Om Om hAn (fun z hz => (hsn z hz).co)).mono ?_);rintro _ h5 ⟨rfl, u5, o5⟩;have c5 := c4'.upLt u5 o5
 iterate 2 (refine VO ?_)
 obtain ⟨q1, q2⟩ := c5.out;rw [hl] at q1;exact zN (W_ret ⟨.inr rfl, _, RbA, x, rfl, q1, c5.up, q2, o5⟩)
end Go.Ai
namespace Go.Ai
open Go.Proofs
theorem sumL_app (l m : List Int) : sumL (l ++ m) = sumL l + sumL m := by
 induction l with
 | nil => simp [sumL]
 | cons x l ih => simp only [List.cons_append, sumL, ih]; omega
theorem sumL_set : ∀ {l : List Int} {i : Nat} {x : Int}, i < l.length → sumL (l.set i x) = sumL l - l.getD i 0 + x
 | [], i, x, h => by simp at h
 | y :: l, 0, x, h => by simp [sumL]; omega
 | y :: l, i + 1, x, h => by
  have := sumL_set (l := l) (i := i) (x := x) (by simpa using h);simp only [List.set_cons_succ, sumL, this, List.getD_cons_succ]; omega
theorem cutI_all {gap room : Int} : ∀ (l out : List Int) (n : Int), (∀ z ∈ out, 0 < z) → sumL (cutI gap room n out l) = sumL out + l.length ∧ ∀ z ∈ cutI gap room n out l, 0 < z
 | [], out, n, h => by rw [cutI_nil]; exact ⟨by simp, h⟩
 | s :: l, out, n, h => by
  rw [cutI_cons];split
  ·rename_i hc;have hp : 0 < out.length := List.length_pos_iff.2 hc.1;have hl := h _ (List.mem_of_getElem? (getD_get (l := out) (i := out.length - 1) Om))
   obtain ⟨a, b⟩ := cutI_all (gap := gap) (room := room) l (out.set (out.length - 1) (out.getD (out.length - 1) 0 + 1)) (plusI n [gap, s]) (fun z hz => by
    rcases List.mem_or_eq_of_mem_set hz with hz | hz
    ·exact h z hz
    ·omega)
   refine ⟨?_, b⟩;rw [a, sumL_set Om]; simp only [List.length_cons]; omega
  ·obtain ⟨a, b⟩ := cutI_all (gap := gap) (room := room) l (out ++ [1]) s (fun z hz => by
    rcases List.mem_append.1 hz with hz | hz
    ·exact h z hz
    ·rw [List.mem_singleton.1 hz]; omega)
   refine ⟨?_, b⟩;rw [a, sumL_app]; simp only [List.length_cons, sumL]; omega
theorem lineI_all {fv : List Int} {inner : Int} {L : List Itm} : sumL (lineI fv inner L) = L.length ∧ ∀ z ∈ lineI fv inner L, 0 < z := by
 unfold lineI;split
 ·rename_i h; rw [h]; exact ⟨rfl, fun z hz => by cases hz⟩
 ·split
  ·exact ⟨by simp [sumL], fun z hz => by rw [List.mem_singleton.1 hz]; omega⟩
  ·have := cutI_all (gap := vAt fv 14) (room := inner) (plains L) [] 0 (fun z hz => by cases hz);exact ⟨by rw [this.1]; simp [sumL, plains], this.2⟩
def ahead : List Int → Nat → Nat
 | _, 0 => 0
 | [], _ => 0
 | n :: ns, m + 1 => n.toNat + ahead ns m
theorem ahead_le : ∀ {ns : List Int} {m : Nat}, (∀ z ∈ ns, 0 < z) → (ahead ns m : Int) ≤ sumL ns
 | [], 0, _ => by simp [ahead, sumL]
 | [], m + 1, _ => by simp [ahead, sumL]
 | n :: ns, 0, h => by
  have h1 := ahead_le (ns := ns) (m := 0) (fun z hz => h z (by simp [hz]));have h2 := h n (by simp);have e1 : ahead ns 0 = 0 := by cases ns <;> rfl
  have e2 : ahead (n :: ns) 0 = 0 := rfl;rw [e1] at h1;rw [e2];simp only [sumL]; omega
 | n :: ns, m + 1, h => by
  have := ahead_le (ns := ns) (m := m) (fun z hz => h z (by simp [hz]));have := h n (by simp);simp only [ahead, sumL]; omega
theorem ahead_succ : ∀ {ns : List Int} {m : Nat} {z : Int}, ns[m]? = some z → ahead ns (m + 1) = ahead ns m + z.toNat
 | [], m, z, h => by simp at h
 | n :: ns, 0, z, h => by simp at h; subst h; cases ns <;> simp [ahead]
 | n :: ns, m + 1, z, h => by
  have := ahead_succ (ns := ns) (m := m) (z := z) (by simpa using h);show n.toNat + ahead ns (m + 1) = n.toNat + ahead ns m + z.toNat;omega
theorem lnsI_len {fv : List Int} {f : Frm} {K : List Kid} {L : List Itm} : ∀ (ns : List Int) (fr : Nat), (lnsI fv f K L fr ns).length = ns.length
 | [], _ => rfl
 | n :: ns, fr => by show (lnsI fv f K L _ ns).length + 1 = _; rw [lnsI_len ns]; rfl
theorem lnsI_get {fv : List Int} {f : Frm} {K : List Kid} {L : List Itm} : ∀ {ns : List Int} {fr m : Nat} {z : Int}, ns[m]? = some z → (lnsI fv f K L fr ns)[m]? = some (lnI fv f ((K.drop (fr + ahead ns m)).take z.toNat) ((L.drop (fr + ahead ns m)).take z.toNat) (fr + ahead ns m) z.toNat)
 | [], fr, m, z, h => by simp at h
 | n :: ns, fr, 0, z, h => by
  simp at h; subst h;cases ns <;> rfl
 | n :: ns, fr, m + 1, z, h => by
  have := lnsI_get (fv := fv) (f := f) (K := K) (L := L) (ns := ns) (fr := fr + n.toNat) (m := m) (z := z) (by simpa using h);show (lnsI fv f K L (fr + n.toNat) ns)[m]? = _;rw [this];show some (lnI fv f ((K.drop (fr + n.toNat + ahead ns m)).take z.toNat) _ _ _) = some (lnI fv f ((K.drop (fr + (n.toNat + ahead ns m))).take z.toNat) _ _ _);rw [Nat.add_assoc]; rfl
end Go.Ai
