/-
LayoutWraps, part 40 of 48: FxLayZ.
-/
import Derived.Test.YthacbaagffpkoaaLw39
set_option linter.unusedVariables false
set_option linter.unusedSimpArgs false
set_option maxRecDepth 100000
set_option maxHeartbeats 0
namespace Go.Ai
open Go.Proofs
theorem row_fn2 {spec : CallF} (hs : SpecLay spec) {h : H} {n0 wb mb pf bb bo : Nat} {X : Nat → Prop} {B : BoxT} {f : Frm} (ok : Ok h) (k : Fr h n0 wb mb (Own X .sl0 .sl0 pf) pf B bb bo f) (hX : ∀ q, X q → q < h.next) (hL : ∀ C ∈ B.kids, LayFn spec C) (h64 : B.kids.length ≤ 64) :
  WF Try.prog spec 57 [.one (.p wb 0), .one (.p pf 0)] h fun r h1 => ∃ x, r = .tup [(false, [x]), (false, [.i .i64 (rowK B.vals f (B.kids.map kidOf)).2])] ∧ GeosAt h1 (Al wb X) (rowK B.vals f (B.kids.map kidOf)).1 x ∧ Up (fun q => q < h.next ∧ q ≠ mb ∧ q ≠ pf) h h1 ∧ Fr h1 n0 wb mb X pf B bb bo f ∧ Ok h1 := by
 obtain ⟨hkl, kS, hks, hkS⟩ := k.box.kidsS;have hlt := k.lt;have bv := k.box.own;have hbb := bv.val.lt;have mlt := k.map.lt
 have c0 : HgtS h h n0 wb mb X pf pf bb bo B f .sl0 .sl0 [] [] [] 83 (f.cells bb bo) ⟨.sl0, 109, 5, []⟩ :=
  ⟨k, hX, (fun p hp => by cases hp), k.cf, .inl rfl, hlt, (fun p hp => by cases hp), (fun p hp => by cases hp), hlt.2, .nil, .nil, (fun q hq => by cases hq), .refl _ _, ok, .nil, (fun q hq => by cases hq), (fun q hq => by cases hq)⟩
 refine WF_of Try.func57 rfl (hs.s _ _ _) (by rw [Try.ntmps57]; simp) (by rw [Try.ntmps57]; decide) ?_;rw [Try.ntmps57, Try.results57];simp only [Sl.setMany_cons, Sl.setMany_nil, Nat.zero_add, Nat.reduceAdd];have cf := k.cf;unfold Frm.cells at cf;have low : ∀ q, q < n0 → q < h.next ∧ q ≠ mb ∧ q ≠ pf := fun q hq => by omega
 have hDl : ((B.kids.map kidOf).map fun k => acrossItm k.vals).length = B.kids.length := by simp
 (repeat refine zS ?_); refine zR ?_
 iterate 2 (refine VO ?_)
 refine zN ?_; (repeat refine zS ?_);refine zR ?_;refine VO ?_;refine zN ?_; (repeat refine zS ?_);refine zR ?_
 iterate 7 (first | (refine VX (Gd2 @cf.row @hks) ?_) | (refine VO ?_))
 refine zV (hkS.len (ee)) Dc ?_;refine VO ?_;refine zN ?_; (repeat refine zS ?_);refine W_cut (fun T h1 => ∃ v, T.get 0 = some (.one (.p wb 0)) ∧ T.get 1 = some (.one (.p pf 0)) ∧ T.get 4 = some (.one .sl0) ∧ T.get 6 = some (.one v) ∧ HgtS h h1 n0 wb mb X pf pf bb bo B f .sl0 .sl0 [] [] [] 83 (f.cells bb bo) ⟨v, 109, 5, flatI ((B.kids.map kidOf).map fun k => acrossItm k.vals)⟩) ?_ ?_
 ·refine zK (W_rounds (fun j T h1 => ∃ i v, j = B.kids.length - i ∧ i ≤ B.kids.length ∧ T.get 0 = some (.one (.p wb 0)) ∧ T.get 1 = some (.one (.p pf 0)) ∧ T.get 4 = some (.one .sl0) ∧ T.get 6 = some (.one v) ∧ T.get 24 = some (.one (.i .i64 (B.kids.length : Int))) ∧ T.get 25 = some (.one (.i .i64 (i : Int))) ∧
   HgtS h h1 n0 wb mb X pf pf bb bo B f .sl0 .sl0 [] [] [] 83 (f.cells bb bo) ⟨v, 109, 5, flatI (((B.kids.map kidOf).map fun k => acrossItm k.vals).take i)⟩) ?_ B.kids.length _ _ ?_)
  rotate_left
  ·exact ⟨0, .sl0, rfl, Nat.zero_le _, gs, gs, gs, gs, gs, gs, c0⟩
  rintro j T h1 ⟨i, v, rfl, hin, t0, t1, t4, t6, t24, t25, c1⟩
  (repeat refine zS ?_); refine zR ?_
  (refine VX (zB (Gs2 @t24 @t25) (Gs2 @t24 @t25) zL) ?_)
  refine zN ?_; (repeat refine zS ?_);refine zC (ee) (fun hlt => W_skip ?_) (fun hge => W_exit ?_)
  ·have hi' : (i : Int) < (B.kids.length : Int) := by simpa using hlt
   have hi' : i < B.kids.length := by omega
   obtain ⟨C, hC⟩ : ∃ C, B.kids[i]? = some C := ⟨_, List.getElem?_eq_getElem hi'⟩;have hzD := mapK (fn := fun k => acrossItm k.vals) hC;rw [kidOf_vals] at hzD;generalize ((B.kids.map kidOf).map fun k => acrossItm k.vals) = DI at *;obtain ⟨kb, ko, kc, kx, hbk0, hkb, hbC0⟩ := k.box.kid hC;have hbk : h1.row bb (bo + 3) 1 = some [.sl kb ko B.kids.length kc 4 kx] := by rw [c1.up.row (low bb hbb)]; exact hbk0
   have hCv := hbC0.own.vok;have vC : Vals h1 n0 kb (ko + i * 4) C.vals := hbC0.own.val.up c1.up low;have cf1 := c1.fr.cf;have hn1 := c1.up.next;unfold Frm.cells at cf1
   repeat refine zS ?_
   refine W_cut (fun T2 h2 => ∃ v2, T2.get 0 = some (.one (.p wb 0)) ∧ T2.get 1 = some (.one (.p pf 0)) ∧ T2.get 4 = some (.one .sl0) ∧ T2.get 6 = some (.one v2) ∧ T2.get 24 = some (.one (.i .i64 (B.kids.length : Int))) ∧ T2.get 25 = some (.one (.i .i64 (i : Int))) ∧
    HgtS h h2 n0 wb mb X pf pf bb bo B f .sl0 .sl0 [] [] [] 83 (f.cells bb bo) ⟨v2, 109, 5, flatI (DI.take (i + 1))⟩) ?_ ?_
   ·refine zK ?_
    (repeat refine zS ?_); refine zR ?_
    iterate 2 (refine VX (Ga1 @t25) ?_)
    refine zN ?_; (repeat refine zS ?_);refine zR ?_
    iterate 10 (first | (refine VX (Gd4 @cf1.row @hbk @t1 @t6) ?_) | (refine VX (Gd2 @t1 @t6) ?_) | (refine VX (Ga2 @t1 @t6) ?_))
    refine WO_fn (ee) (by simp) Dc ((acrossI_fn hs c1.ok Om vC hCv).mono ?_);rintro _ h3 ⟨rfl, u3, o3⟩;have c3 := c1.upLt u3 o3;refine WO_bsA el107 ze107 rfl Dc Dc (ee) rfl o3 Dc fun h4 n4 => ?_;have c4 := c3.upLt n4.up n4.ok;have hn4 := c4.up.next;refine WO_app (n0 := h.next) ap107_107 (Gt1 @t6) (ee) n4.cells rfl c4.gz n4.ok hn4 (m := i) (by rw [flatI_len, List.length_take]; omega) Om Om Dc fun v5 h5 w5 => ?_;have c5 := c4.moreZ w5 (fun p hp => by cases hp);refine VO ?_;refine zN ⟨rfl, v5, gt t0, gt t1, gt t4, gs, gt t24, gt t25, ?_⟩;rw [hzD, flatI_append, show flatI [acrossItm C.vals] = (acrossItm C.vals).cells by simp [flatI]];exact c5
   ·rintro T2 h2 ⟨v2, t0, t1, t4, t6, t24, t25, c2⟩;refine zR ?_
    (refine VX (zB (Gs1 @t25) (Gs1 @t25) zA) ?_; (try rw [zI Om Om]))
    (refine VX (Ga1 @t25) ?_)
    exact zN ⟨B.kids.length - (i + 1), by omega, i + 1, v2, rfl, hi', gt t0, gt t1, gt t4, gt t6, gt t24, gs, c2⟩
  ·have hge2 : ¬ (i : Int) < (B.kids.length : Int) := by simpa using hge
   have hiN : i = B.kids.length := by omega
   rw [hiN, List.take_of_length_le Om] at c1;exact ⟨fun _ => ⟨rfl, v, t0, t1, t4, t6, c1⟩, fun hne => absurd rfl hne⟩
 rintro T h1 ⟨v, t0, t1, t4, t6, c1⟩;have iv1 := c1.gz.items;have vb1 : ∀ q, S.blk v = some q → h.next ≤ q ∧ q < h1.next := fun q hq => c1.gz.lt hq
 have gv1 : Grown h1 v h.next 109 5 (flatI ((B.kids.map kidOf).map fun k => acrossItm k.vals)) := c1.gz;have c1 := c1.dropZ
 have hiok : ∀ z ∈ (B.kids.map kidOf).map (fun k => acrossItm k.vals), z.ok := fun z hz => by
  obtain ⟨a, ha, rfl⟩ := List.mem_map.1 hz;obtain ⟨C, hC, rfl⟩ := List.mem_map.1 ha;obtain ⟨i, hi, hiC⟩ := List.mem_iff_getElem.1 hC;obtain ⟨kb, ko, kc, kx, hbk0, hkb, hbC0⟩ := k.box.kid (i := i) (C := C) (by rw [List.getElem?_eq_getElem hi, hiC]);rw [kidOf_vals];exact acrossItm_ok hbC0.own.vok
 have cf1 := c1.fr.cf;have plt1 := c1.fr.lt;have hn1 := c1.up.next;unfold Frm.cells at cf1
 (repeat refine zS ?_); refine zR ?_
 refine VO ?_;refine zN ?_; (repeat refine zS ?_);refine zR ?_;refine VO ?_;refine zN ?_; (repeat refine zS ?_);refine zR ?_
 iterate 2 (refine VX (Ga2 @t1 @t6) ?_)
 refine WO_fn (ee) (by simp) Dc ((lines_fn hs (f := f) c1.ok Om plt1.2 (cf1.at1 rfl) (cf1.at1 rfl) c1.fr.box.own.val bv.vok iv1 hiok Om).mono ?_);rintro _ h2 ⟨ln, rfl, il2, u2, o2⟩;have hn2 := u2.next;have c2 := c1.upLt u2 o2;have iv2 := iv1.upLt u2;obtain ⟨hsum, hpos⟩ := lineI_all (fv := B.vals) (inner := f.inner) (L := (B.kids.map kidOf).map fun k => acrossItm k.vals);refine zV (il2.ints.len (ee)) Dc ?_;refine VO ?_;refine zN ?_; (repeat refine zS ?_);have hLl : (rowLns B.vals f (B.kids.map kidOf)).length = (lineI B.vals f.inner ((B.kids.map kidOf).map fun k => acrossItm k.vals)).length := lnsI_len _ _;have hLg : ∀ {m : Nat} {z : Int}, (lineI B.vals f.inner ((B.kids.map kidOf).map fun k => acrossItm k.vals))[m]? = some z → (rowLns B.vals f (B.kids.map kidOf))[m]? = some (lnI B.vals f (((B.kids.map kidOf).drop (0 + ahead (lineI B.vals f.inner ((B.kids.map kidOf).map fun k => acrossItm k.vals)) m)).take z.toNat) ((((B.kids.map kidOf).map fun k => acrossItm k.vals).drop (0 + ahead (lineI B.vals f.inner ((B.kids.map kidOf).map fun k => acrossItm k.vals)) m)).take z.toNat) (0 + ahead (lineI B.vals f.inner ((B.kids.map kidOf).map fun k => acrossItm k.vals)) m) z.toNat) := lnsI_get;have hB2 : (rowK B.vals f (B.kids.map kidOf)).2 = endI (rowAt B.vals (rowLns B.vals f (B.kids.map kidOf))) ((rowLns B.vals f (B.kids.map kidOf)).map Ln.cross) := rfl;have hB1 : (rowK B.vals f (B.kids.map kidOf)).1 = cornered (fun i => (putI B.vals (kv (B.kids.map kidOf) i) ((rowX (rowLns B.vals f (B.kids.map kidOf))).getD i 0), putI B.vals (kv (B.kids.map kidOf) i) ((rowY (rowLns B.vals f (B.kids.map kidOf)) (rowAt B.vals (rowLns B.vals f (B.kids.map kidOf)))).getD i 0))) ((rowLns B.vals f (B.kids.map kidOf)).flatMap Ln.gs) := rfl;rw [hB2, hB1];generalize rowLns B.vals f (B.kids.map kidOf) = LNS at *;generalize lineI B.vals f.inner ((B.kids.map kidOf).map fun k => acrossItm k.vals) = NS at *;generalize (B.kids.map kidOf).map (fun k => acrossItm k.vals) = DI at *;have gv2 := gv1.up u2 (fun q hq => (vb1 q hq).2)
 have r0 : RowS h h2 n0 wb mb X pf bb bo B f v ln .sl0 .sl0 .sl0 DI NS LNS 0 [] [] :=
  ⟨⟨c2.fr, c2.hX, c2.iv, c2.co, c2.mo, c2.lo, c2.so, c2.sx, c2.lf, c2.gx, c2.gy, c2.xy, c2.up, c2.ok, .nil, (fun q hq => by cases hq), (fun q hq => by cases hq)⟩, by simp, by cases NS <;> rfl, rfl, (fun j p r hp => by simp at hp), by
   rcases il2 with q | ⟨b, c, ex, q1, _, q2, q3⟩
   ·exact .inl q
   ·exact .inr ⟨b, c, ex, q1, Nat.zero_le _, q2, q3⟩, (fun q hq => ⟨by have := (il2.blk hq).1; omega, (fun e => by cases e), (fun e => by cases e), (fun e => by cases e)⟩), gv2, (fun q hq => ⟨(vb1 q hq).1, (fun e => by cases e), (fun e => by cases e), (fun e => by cases e)⟩)⟩
 have hNl : NS.length ≤ 64 := by have := len_le_sum hpos; omega
 refine W_cut (fun T h3 => ∃ x y a l pl, T.get 1 = some (.one (.p pf 0)) ∧ T.get 4 = some (.one x) ∧ T.get 8 = some (.one a) ∧ T.get 9 = some (.one y) ∧ RowS h h3 n0 wb mb X pf bb bo B f v ln x y a DI NS LNS NS.length l pl) ?_ ?_
 ·refine zK (W_rounds (fun j T h3 => ∃ m x y a l pl, j = NS.length - m ∧ m ≤ NS.length ∧ T.get 0 = some (.one (.p wb 0)) ∧ T.get 1 = some (.one (.p pf 0)) ∧ T.get 4 = some (.one x) ∧ T.get 6 = some (.one v) ∧ T.get 8 = some (.one a) ∧ T.get 9 = some (.one y) ∧ T.get 44 = some (.one ln) ∧ T.get 45 = some (.one (.i .i64 (NS.length : Int))) ∧ T.get 46 = some (.one (.i .i64 (m : Int))) ∧ RowS h h3 n0 wb mb X pf bb bo B f v ln x y a DI NS LNS m l pl) ?_ NS.length _ _ ?_);rotate_left
  ·exact ⟨0, .sl0, .sl0, .sl0, [], [], rfl, Nat.zero_le _, gt t0, gt t1, gt t4, gt t6, gs, gs, gs, gs, gs, r0⟩
  clear r0 c2 c1 cf1 iv2 iv1 il2 gv1 gv2;rintro j T h3 ⟨m, x, y, a, l, pl, rfl, hmn, t0, t1, t4, t6, t8, t9, t44, t45, t46, r3⟩
  (repeat refine zS ?_); refine zR ?_
  (refine VX (zB (Gs2 @t45 @t46) (Gs2 @t45 @t46) zL) ?_)
  refine zN ?_; (repeat refine zS ?_);refine zC (ee) (fun hlt => W_skip ?_) (fun hge => W_exit ?_)
  ·have hm' : (m : Int) < (NS.length : Int) := by simpa using hlt
   have hm' : m < NS.length := by omega
   obtain ⟨z, hz⟩ : ∃ z, NS[m]? = some z := ⟨_, List.getElem?_eq_getElem hm'⟩;have hz0 := hpos z (List.mem_of_getElem? hz);have hr := hLg hz;have hah := ahead_succ hz;have hah2 := ahead_le (m := m + 1) hpos;obtain ⟨n, rfl⟩ : ∃ n : Nat, z = n := ⟨z.toNat, by omega⟩;rw [Int.toNat_natCast] at hr hah;rw [Nat.zero_add, ← List.map_drop, ← List.map_take] at hr;have hll := r3.ll;generalize hFR : ahead NS m = fr at hr hah hll;have hbnd : fr + n ≤ B.kids.length := by omega
   have hdl : ((DI.drop fr).take n).length = n := by rw [List.length_take, List.length_drop]; omega
   have hkl2 : (((B.kids.drop fr).take n).map kidOf).length = n := by simp; omega
   obtain ⟨hg1, hg2, hg3⟩ := lnI_lens (fv := B.vals) (f := f) (fr := fr) hkl2 hdl
   obtain ⟨vb, hvv, hvl, hvc⟩ : ∃ vb, v = .sl vb 0 B.kids.length B.kids.length 5 false ∧ vb < h3.next ∧ Cells h3 vb 109 (flatI DI) := by
    rcases r3.iv with ⟨e, _⟩ | ⟨q, k, e, _, e2, e3, _, _, e6⟩
    ·have := congrArg List.length e; rw [flatI_len] at this; simp at this; omega
    ·have : k = B.kids.length := by rw [flatI_len] at e2; omega
     subst this; exact ⟨q, e, e6, e3⟩
   obtain ⟨lb, lc, lx, hlv, hlbl, hlr⟩ : ∃ b c ex, ln = .sl b 0 NS.length c 1 ex ∧ b < h3.next ∧ h3.row b m 1 = some [.i .i64 (n : Int)] := by
    rcases r3.il with ⟨q, _⟩ | ⟨b, c, ex, q, _, q2, q3⟩
    ·rw [q] at hm'; simp at hm'
    ·exact ⟨b, c, ex, q, q2, q3 m _ hz⟩
   rw [hvv] at t6;rw [hlv] at t44;have st3 := r3.st;have plt3 := st3.fr.lt;have mlt3 := st3.fr.map.lt;have hn3 := st3.up.next
   repeat refine zS ?_
   refine W_cut (fun T2 h2 => ∃ x y a l pl, T2.get 0 = some (.one (.p wb 0)) ∧ T2.get 1 = some (.one (.p pf 0)) ∧ T2.get 4 = some (.one x) ∧ T2.get 6 = some (.one v) ∧ T2.get 8 = some (.one a) ∧ T2.get 9 = some (.one y) ∧ T2.get 44 = some (.one ln) ∧ T2.get 45 = some (.one (.i .i64 (NS.length : Int))) ∧ T2.get 46 = some (.one (.i .i64 (m : Int))) ∧ RowS h h2 n0 wb mb X pf bb bo B f v ln x y a DI NS LNS (m + 1) l pl) ?_ ?_
   ·refine zK ?_
    (repeat refine zS ?_); refine zR ?_
    (refine VX (Gd2 @t44 @t46) ?_)
    (refine VX (Gd3 @hlr @t44 @t46) ?_)
    (refine VX (Ga2 @t44 @t46) ?_)
    refine zN ?_; (repeat refine zS ?_);refine zR ?_
    (refine VX (Ga1 @t4) ?_)
    refine zV (st3.gx.len (ee)) Dc ?_;rw [hll]
    iterate 2 (refine VX (Ga2 @t4 @t6) ?_)
    refine zV (st3.gx.len (ee)) Dc ?_;rw [hll]
    (refine VX (Ga1 @t4) ?_)
    refine zV (st3.gx.len (ee)) Dc ?_;rw [hll];refine VO ?_
    (refine VX (zB ee ee zA) ?_; (try rw [zI Om Om]))
    refine zV (ex_sliceI (l := fr) (k := fr + n) el107 (ee) (ee) (by (simp only [go_sem, ↓reduceIte, Nat.reduceEqDiff, natAdd] <;> rfl)) Om Om) Dc ?_;rw [show fr + n - fr = n by omega, show 0 + fr * 5 = fr * 5 by omega];refine zV (v := .agg [.i .i64 (fr : Int), .sl vb (fr * 5) n (B.kids.length - fr) 5 false, .sl0, .sl0, .i .i64 0]) (by rw [ex_build]; exact bd_of (by kernel_rfl : placesOf Try.prog 115 = some [(0, 1), (1, 1), (2, 1), (3, 1), (4, 1)]) zb115 (by simp only [evParts, go_sem, ↓reduceIte, Nat.reduceEqDiff]; rfl) rfl) Dc ?_;refine WO_boxA (ee) st3.ok Dc fun h4 n4 => ?_;refine VO ?_;refine zN ?_; (repeat refine zS ?_);refine zR ?_;have hn4 := n4.next
    have hit4 : ItemsAt h4 (.sl vb (fr * 5) n (B.kids.length - fr) 5 false) ((DI.drop fr).take n) := .inr ⟨vb, fr * 5, _, _, by rw [hdl], by omega, fun i y hy => by
     have hy2 : DI[fr + i]? = some y := by
      rw [List.getElem?_take] at hy;split at hy
      ·rwa [List.getElem?_drop] at hy
      ·cases hy
     obtain ⟨hlt2, _⟩ := gEi.1 hy2
     rw [n4.up.row hvl, show fr * 5 + i * 5 = (fr + i) * 5 by omega, hvc.row (by rw [flatI_len]; omega), flatI_get hy2]⟩
    iterate 4 (refine VX (Ga3 @t0 @t1 @t4) ?_)
    refine WO_fn (ee) (by simp) Dc ((line_fn hs (X := Own X x y pf a) n4.ok (st3.fr.own n4) (fun q hq => by have := st3.own hq; omega) hL hbnd Om hit4 (fun e => by have e : vb = h3.next := Option.some.inj e; omega) hdl (fun y hy => hiok y (List.mem_of_mem_drop (List.mem_of_mem_take hy))) ⟨by omega, by omega, by omega⟩ n4.cells n4.may).mono ?_);rintro _ h5 ⟨x2, xs, ys, ro, l2, rfl, hl2, hro, hxn, c5⟩;have hn5 := c5.up.next;have hF1 : (lnI B.vals f (((B.kids.drop fr).take n).map kidOf) ((DI.drop fr).take n) fr n).fr = fr := rfl;have hF2 : (lnI B.vals f (((B.kids.drop fr).take n).map kidOf) ((DI.drop fr).take n) fr n).n = n := rfl;generalize lnI B.vals f (((B.kids.drop fr).take n).map kidOf) ((DI.drop fr).take n) fr n = LN at *;have hl2n : l2.length = n := by have := congrArg List.length hl2; rw [List.length_map, hg1] at this; exact this
    obtain ⟨q2, hx2, hc2⟩ : ∃ q, x2 = .sl q 0 n n 5 false ∧ Cells h5 q 37 (flatG l2) := by
     rcases c5.gx.grown with ⟨e, _⟩ | ⟨q, j, e, _, e2, e3, _, _, _⟩
     ·have := congrArg List.length e; rw [flatG_len] at this; simp at this; omega
     ·have : j = n := by rw [flatG_len] at e2; omega
      subst this; exact ⟨q, e, e3⟩
    subst hx2;have U5 : Up (fun q => q < h3.next ∧ q ≠ mb) h3 h5 := (n4.up.mono fun q hq => hq.1).trans (c5.up.mono fun q hq => ⟨by omega, hq.2, by omega⟩);have st5 := st3.lay U5 (c5.fr.map.mono (Nat.le_refl _) (fun _ _ _ _ h => h) (fun q _ _ h => .inl h) c5.fr.map.may) c5.ok;refine WO_appN (n0 := h.next) ap35_35 (ee) (ee) hc2 (by rw [flatG_len, hl2n]) Om st5.gx.grown c5.ok Om (m := fr) (by rw [flatG_len, hll]) Om Om Dc fun x6 h6 w6 => ?_;have e6 := w6.next;have c6 := st5.moreXs w6 (fun p hp => (c5.gx.kids p hp).up (.refl (fun _ => True) h5) (fun _ _ _ => trivial) fun q h1 _ => ⟨h1.1, fun h => h1.2 (.inl h)⟩);have hxl : ∀ q, S.blk x = some q → q < h3.next := fun q hq => (st3.gx.grown.lt hq).2
    have hyl : ∀ q, S.blk y = some q → q < h3.next := fun q hq => (st3.gy.lt hq).2
    have hal : ∀ q, S.blk a = some q → q < h3.next := fun q hq => (st3.gz.lt hq).2
    have co6 := w6.up.cells (b := h3.next) ⟨by omega, fun e => by have := hxl _ e; omega⟩ c5.co;refine VO ?_;refine zN ?_; (repeat refine zS ?_);refine W_drawn dr57_14 (by kernel_rfl) c6.ok.floor ?_;unfold dr57_14
    iterate 2 (refine IX rfl (Ga2 @t8 @t9) ?_)
    refine WI_bs1 rfl el111 ⟨_, ze111⟩ (ee) c6.ok Dc fun h7 n7 => ?_;have e7 := n7.next;have c7 := c6.upLt n7.up n7.ok;have co7 := n7.up.cells (show h3.next < h6.next by omega) co6
    iterate 4 (refine IX rfl (Ga2 @t8 @t9) ?_)
    (refine IL rfl zF (Gs2 @t8 @t9) (Gd1 @co7.row) ?_)
    refine WI_bs1 rfl el26 ⟨_, ze26⟩ (ee) n7.ok Dc fun h8 n8 => ?_;have e8 := n8.next;have c8 := c7.upLt n8.up n8.ok;have hn8 := c8.up.next;have fl8 := c8.up.floor;have flo := ok.floor
    refine WI_app (n0 := h.next) rfl ap111_111 (ee) (ee) (n8.up.cells (show h6.next < h7.next by omega) n7.cells) OffA rfl c8.gz (fun b hb => by
     have := st3.gz.lt hb;refine ⟨OffA, OffA, ?_⟩;show h8.floor ≤ b
     omega) n8.ok (n8.ok.fenced (fun b hb => OffA) (fun b hb => OffA) n8.ok.floor) hn8 (mm := m) (by rw [List.length_map, r3.lp, Nat.mul_one]) Om Om Dc fun a9 h9 w9 => ?_
    have e9 := w9.next;have c9 := c8.moreZ w9 (fun p hp => by cases hp);have fl9 := c9.up.floor
    refine WI_app (n0 := h.next) rfl ap26_26 (ee) (ee) (w9.up.cells (b := h7.next) ⟨by omega, fun e => by have := hal _ e; omega⟩ n8.cells) OffA rfl c9.gy (fun b hb => by
     have := st3.gy.lt hb;refine ⟨OffA, OffA, ?_⟩;show h9.floor ≤ b
     omega) w9.ok (w9.ok.fenced (fun b hb => OffA) (fun b hb => OffA) w9.ok.floor) Om (mm := m) (by rw [nums_length, List.length_map, List.length_take]; omega) Om Om Dc fun y10 h10 w10 => ?_
    have e10 := w10.next;have c10 := c9.moreY w10
    iterate 2 (refine zO rfl ?_)
    refine WI_nil ⟨by trivial, x6, y10, a9, l ++ l2, pl ++ [h3.next], gt t0, gt t1, gs, (Gu2 @t6 @hvv), gs, gs, (Gu2 @t44 @hlv), gt t45, gt t46, ?_⟩;have hT : LNS.take (m + 1) = LNS.take m ++ [LN] := by have := map_take (f := id) hr; simpa using this
    have V10 : Up (fun q => q < h5.next ∧ S.blk x ≠ some q ∧ S.blk y ≠ some q ∧ S.blk a ≠ some q) h5 h10 := (w6.up.mono fun q hq => ⟨hq.1, hq.2.1⟩).trans ((n7.up.mono fun q hq => by omega).trans ((n8.up.mono fun q hq => by omega).trans ((w9.up.mono fun q hq => ⟨by omega, hq.2.2.2⟩).trans (w10.up.mono fun q hq => ⟨by omega, hq.2.2.1⟩))));have U10 : Up (fun q => q < h3.next ∧ q ≠ mb ∧ S.blk x ≠ some q ∧ S.blk y ≠ some q ∧ S.blk a ≠ some q) h3 h10 := (U5.mono fun q hq => ⟨hq.1, hq.2.1⟩).trans (V10.mono fun q hq => ⟨by omega, hq.2.2⟩);have nb : ∀ q, h.next ≤ q → q < h5.next → NB h x6 y10 a9 q := fun q h1 h2 => ⟨h1, by rw [w6.blk]; intro e; cases e; omega, by rw [w10.blk]; intro e; cases e; omega, by rw [w9.blk]; intro e; cases e; omega⟩
    have nbp : ∀ q, NB h x y a q → q < h3.next → (q < h3.next ∧ q ≠ mb ∧ S.blk x ≠ some q ∧ S.blk y ≠ some q ∧ S.blk a ≠ some q) := fun q h1 h2 => ⟨h2, by have := h1.1; omega, h1.2⟩
    refine ⟨by rw [hT, List.map_append, List.map_append]; exact c10, by rw [hT, List.map_append, List.flatMap_append, r3.gs, hl2]; simp, by rw [List.length_append, hll, hl2n, hah], by rw [List.length_append, r3.lp]; rfl, fun j p r hj hrj => ?_, r3.il.upB U10 (fun q hq => nbp q (r3.ib q hq) (r3.il.blk hq).2), fun q hq => nb q (r3.ib q hq).1 (by have := (r3.il.blk hq).2; omega), r3.iv.up U10 (fun q hq => nbp q (r3.vb q hq) (r3.iv.lt hq).2), fun q hq => nb q (r3.vb q hq).1 (by have := (r3.iv.lt hq).2; omega)⟩;rw [List.getElem?_append] at hj;split at hj
    ·exact (r3.ones j p r hj hrj).up U10 (fun q hq hq2 => nbp q hq hq2) fun q hq hq2 => nb q hq.1 Om
    ·rename_i hjl
     have hj0 : j - pl.length = 0 := by
      rcases Nat.eq_zero_or_pos (j - pl.length) with e | e
      ·exact e
      ·rw [List.getElem?_eq_none (by simp; omega)] at hj; cases hj
     have hlp := r3.lp;have hjm : j = m := by omega
     subst hjm;rw [hj0] at hj;simp at hj; subst hj;rw [hr] at hrj; cases hrj;have hxi := (c5.iv _ hro);have hxb : ∀ q, S.blk xs = some q → h3.next < q ∧ q < h5.next := fun q hq => ⟨by have := hxn q hq; omega, (hxi.blk hq).2⟩
     have hyb : ∀ q, S.blk ys = some q → h3.next < q ∧ q < h5.next := fun q hq => by have := c5.gy.lt hq; omega
     have nv : ∀ q, h3.next ≤ q → q < h5.next → (q < h5.next ∧ S.blk x ≠ some q ∧ S.blk y ≠ some q ∧ S.blk a ≠ some q) := fun q h1 h2 => ⟨h2, fun e => by have := hxl q e; omega, fun e => by have := hyl q e; omega, fun e => by have := hal q e; omega⟩
     refine ⟨⟨nb _ Om Om, by omega⟩, vb, fr * 5, B.kids.length - fr, false, xs, ys, ?_, ?_, fun q hq => nb q (by have := hxb q hq; omega) (hxb q hq).2, ?_, fun q hq => nb q (by have := hyb q hq; omega) (hyb q hq).2⟩
     ·rw [hF1, hF2]; exact V10.cells (nv _ (Nat.le_refl _) Om) c5.co
     ·have := hxi.upB V10 (fun q hq => nv q (by have := hxb q hq; omega) (hxb q hq).2);exact this.low
     ·exact (c5.gy.intsIn (Nat.zero_le _)).upB V10 (fun q hq => nv q (by have := hyb q hq; omega) (hyb q hq).2)
   ·rintro T2 h2 ⟨x, y, a, l, pl, t0, t1, t4, t6, t8, t9, t44, t45, t46, r4⟩;refine zR ?_
    (refine VX (zB (Gs1 @t46) (Gs1 @t46) zA) ?_; (try rw [zI Om Om]))
    (refine VX (Ga1 @t46) ?_)
    exact zN ⟨NS.length - (m + 1), by omega, m + 1, x, y, a, l, pl, rfl, hm', gt t0, gt t1, gt t4, gt t6, gt t8, gt t9, gt t44, gt t45, gs, r4⟩
  ·have hge2 : ¬ (m : Int) < (NS.length : Int) := by simpa using hge
   have hmN : m = NS.length := by omega
   rw [hmN] at r3;exact ⟨fun _ => ⟨rfl, x, y, a, l, pl, t1, t4, t8, t9, r3⟩, fun hne => absurd rfl hne⟩
 rintro T h3 ⟨x, y, a, l, pl, t1, t4, t8, t9, r3⟩;have hTk : LNS.take NS.length = LNS := List.take_of_length_le Om;have st3 := r3.st;have hgs := r3.gs;have hll := r3.ll;have hlp := r3.lp;rw [hTk] at st3 hgs;have hall := ahead_all hpos
 have hLn : ∀ (j : Nat) (r : Ln), LNS[j]? = some r → ∃ n : Nat, NS[j]? = some (n : Int) ∧ r.gs.length = n ∧ r.x.length = n ∧ r.y.length = n ∧ r.fr = ahead NS j ∧ r.n = n ∧ CO r.cross ∧ (∀ z ∈ r.x, CO z) ∧ (∀ z ∈ r.y, CO z) ∧ ahead NS (j + 1) = ahead NS j + n ∧ ahead NS j + n ≤ B.kids.length := by
  intro j r hr;obtain ⟨hj, _⟩ := gEi.1 hr;obtain ⟨z, hz⟩ : ∃ z, NS[j]? = some z := ⟨_, List.getElem?_eq_getElem Om⟩;have hz0 := hpos z (List.mem_of_getElem? hz);have hr2 := hLg hz;have hah := ahead_succ hz;have hah2 := ahead_le (m := j + 1) hpos;obtain ⟨n, rfl⟩ : ∃ n : Nat, z = n := ⟨z.toNat, by omega⟩;rw [Int.toNat_natCast] at hr2 hah;rw [Nat.zero_add, ← List.map_drop, ← List.map_take] at hr2;rw [hr] at hr2;have hbnd : ahead NS j + n ≤ B.kids.length := by omega
  obtain ⟨hg1, hg2, hg3⟩ := lnI_lens (fv := B.vals) (f := f) (fr := ahead NS j) (K := ((B.kids.drop (ahead NS j)).take n).map kidOf) (L := (DI.drop (ahead NS j)).take n) (n := n) (by simp; omega) (by rw [List.length_take, List.length_drop]; omega);obtain ⟨hc1, hc2, hc3⟩ := lnI_co (fv := B.vals) (f := f) (fr := ahead NS j) (K := ((B.kids.drop (ahead NS j)).take n).map kidOf) (L := (DI.drop (ahead NS j)).take n) (n := n) k.tall;cases hr2;exact ⟨n, hz, hg1, hg2, hg3, rfl, rfl, hc1, hc2, hc3, hah, hbnd⟩
 have gv := bv.vok.bd 14 Om;have hgap : 0 ≤ vAt B.vals 14 ∧ vAt B.vals 14 ≤ 1099511627776 := ⟨gv.1, by have : vAt B.vals 14 ≤ 1073741824 := gv.2; omega⟩
 have hHn : ∀ z ∈ LNS.map Ln.cross, CO z := fun z hz => by
  obtain ⟨r, hr, rfl⟩ := List.mem_map.1 hz;obtain ⟨j, hj, rfl⟩ := List.mem_iff_getElem.1 hr;obtain ⟨_, _, _, _, _, _, _, hc, _⟩ := hLn j _ (List.getElem?_eq_getElem hj);exact hc
 have hHl : (LNS.map Ln.cross).length = NS.length := by rw [List.length_map]; exact hLl
 have hAl : (rowAt B.vals LNS).length = NS.length := by unfold rowAt; rw [rowI_len]; exact hHl
 have hAn : ∀ z ∈ rowAt B.vals LNS, CO z := rowI_co _ _ _ (by unfold CO; omega);have hA : rowI [vAt B.vals 14] 0 (LNS.map Ln.cross) = rowAt B.vals LNS := rfl;have hll3 : l.length = B.kids.length := by omega
 have cf3 := st3.fr.cf;have bv3 := st3.fr.box.own;have hn3 := st3.up.next;unfold Frm.cells at cf3
 (repeat refine zS ?_); refine zR ?_
 iterate 4 (refine VX (Ga2 @t1 @t9) ?_)
 (refine VX (Gd3 @cf3.row @t1 @t9) ?_)
 refine WO_fn (ee) (by simp) Dc ((v_fn hs bv3.val (i := 14) (bv.vok.at Om).1).mono ?_);rintro _ h3 ⟨rfl, rfl⟩;refine WO_fn (Gt1 @t9) (by simp) Dc ((pile_fn hs st3.ok st3.gy.ints Om hHn (co_nn hgap)).mono ?_);rintro _ h4 ⟨at_, rfl, g4, u4, o4⟩;rw [hA] at g4;have hab : ∀ q, S.blk at_ = some q → h3.next ≤ q := fun q hq => (g4.lt hq).1
 have c4 := ((st3.upLt u4 o4).dropY).addRo (v := at_) (m := rowAt B.vals LNS) (g4.intsIn Om) (fun e => by have := hab _ e; omega) (fun q hq => ⟨fun e => by have := hab _ hq; have := (st3.gx.grown.lt e).2; omega, fun e => by cases e⟩);generalize hCR : LNS.map Ln.cross = HS at *;generalize hcc : (fun i => (putI B.vals (kv (B.kids.map kidOf) i) ((rowX LNS).getD i 0), putI B.vals (kv (B.kids.map kidOf) i) ((rowY LNS (rowAt B.vals LNS)).getD i 0))) = cc at *;generalize rowAt B.vals LNS = AT at *;have q4 : RowT h h4 n0 wb mb X pf bb bo B f x y a at_ HS AT LNS pl cc (LNS.flatMap Ln.gs) (ahead NS 0) l := ⟨c4, hll3, by rw [show ahead NS 0 = 0 by cases NS <;> rfl, cornerK_zero]; exact hgs, fun j p r h1 h2 => (r3.ones j p r h1 h2).up u4 (fun q hq h2 => h2) fun q hq _ => ⟨hq.1, hq.2.1, (fun e => by cases e), hq.2.2.2⟩⟩;refine VO ?_;refine zN ?_; (repeat refine zS ?_);refine zR ?_
 (refine VX (Ga1 @t8) ?_)
 refine zV (c4.gz.len1 el111 (Gt1 @t8)) Dc ?_;rw [show ((pl.map fun p => S.p p 0).length : Int) = (NS.length : Int) by rw [List.length_map, hlp]];refine VO ?_;refine zN ?_; (repeat refine zS ?_);refine W_cut (fun T h5 => ∃ l, T.get 4 = some (.one x) ∧ T.get 9 = some (.one y) ∧ T.get 13 = some (.one at_) ∧ RowT h h5 n0 wb mb X pf bb bo B f x y a at_ HS AT LNS pl cc (LNS.flatMap Ln.gs) (ahead NS NS.length) l) ?_ ?_
 ·refine zK (W_rounds (fun j T h5 => ∃ m l, j = NS.length - m ∧ m ≤ NS.length ∧ T.get 1 = some (.one (.p pf 0)) ∧ T.get 4 = some (.one x) ∧ T.get 9 = some (.one y) ∧ T.get 13 = some (.one at_) ∧ T.get 87 = some (.one a) ∧ T.get 88 = some (.one (.i .i64 (NS.length : Int))) ∧ T.get 89 = some (.one (.i .i64 (m : Int))) ∧ RowT h h5 n0 wb mb X pf bb bo B f x y a at_ HS AT LNS pl cc (LNS.flatMap Ln.gs) (ahead NS m) l) ?_ NS.length _ _ ?_);rotate_left
  ·exact ⟨0, l, rfl, Nat.zero_le _, gt t1, gt t4, gt t9, gs, gs, gs, gs, q4⟩
  clear q4 c4 r3 st3 cf3 g4 u4 o4 bv3;rintro j T h5 ⟨m, l, rfl, hmn, t1, t4, t9, t13, t87, t88, t89, r5⟩
  (repeat refine zS ?_); refine zR ?_
  (refine VX (zB (Gs2 @t88 @t89) (Gs2 @t88 @t89) zL) ?_)
  refine zN ?_; (repeat refine zS ?_);refine zC (ee) (fun hlt => W_skip ?_) (fun hge => W_exit ?_)
  ·have hm' : (m : Int) < (NS.length : Int) := by simpa using hlt
   have hm' : m < NS.length := by omega
   obtain ⟨r, hr⟩ : ∃ r, LNS[m]? = some r := ⟨_, List.getElem?_eq_getElem Om⟩;obtain ⟨p, hp⟩ : ∃ p, pl[m]? = some p := ⟨_, List.getElem?_eq_getElem Om⟩;obtain ⟨n, hz, hg1, hg2, hg3, hf1, hf2, hc1, hc2, hc3, hah, hbnd⟩ := hLn m r hr;have hone := r5.ones m p r hp hr;obtain ⟨vb, vo, vc, vx, xs, ys, pc, ix, bx, iy, by_⟩ := hone.at_;rw [hf1, hf2] at pc
   obtain ⟨ab, hav, hac⟩ : ∃ q, a = .sl q 0 NS.length NS.length 1 false ∧ Cells h5 q 113 (pl.map fun p => S.p p 0) := by
    rcases r5.st.gz with ⟨e, _⟩ | ⟨q, j, e, _, e2, e3, _, _, _⟩
    ·have := congrArg List.length e; simp at this; simp [this] at hp
    ·have : j = NS.length := by have e2 : (pl.map fun p => S.p p 0).length = j * 1 := e2; rw [List.length_map] at e2; omega
     subst this; exact ⟨q, e, e3⟩
   generalize hFR : ahead NS m = fr at r5 pc hah hbnd;have hpr : h5.row ab m 1 = some [.p p 0] := hac.at1 (by rw [List.getElem?_map, hp]; rfl);rw [hav] at t87
   repeat refine zS ?_
   refine W_cut (fun T2 h2 => ∃ l, T2.get 1 = some (.one (.p pf 0)) ∧ T2.get 4 = some (.one x) ∧ T2.get 9 = some (.one y) ∧ T2.get 13 = some (.one at_) ∧ T2.get 87 = some (.one a) ∧ T2.get 88 = some (.one (.i .i64 (NS.length : Int))) ∧ T2.get 89 = some (.one (.i .i64 (m : Int))) ∧ RowT h h2 n0 wb mb X pf bb bo B f x y a at_ HS AT LNS pl cc (LNS.flatMap Ln.gs) (ahead NS (m + 1)) l) ?_ ?_
   ·refine zK ?_
    (repeat refine zS ?_); refine zR ?_
    iterate 5 (first | (refine VX (Gd2 @t87 @t89) ?_) | (refine VX (Gd3 @hpr @t87 @t89) ?_) | (refine VX (Ga2 @t87 @t89) ?_))
    refine zN ?_; (repeat refine zS ?_);refine zR ?_
    iterate 3 (refine VO ?_)
    (refine VX (Gd1 @pc.row) ?_)
    refine zV (ex_len el107 (ee)) Dc ?_;refine VO ?_;refine zN ?_; (repeat refine zS ?_);rw [hah];refine zK (W_rounds (fun j T h6 => ∃ i l, j = n - i ∧ i ≤ n ∧ T.get 1 = some (.one (.p pf 0)) ∧ T.get 4 = some (.one x) ∧ T.get 9 = some (.one y) ∧ T.get 13 = some (.one at_) ∧ T.get 14 = some (.one (.i .i64 (m : Int))) ∧ T.get 15 = some (.one (.p p 0)) ∧ T.get 87 = some (.one a) ∧ T.get 88 = some (.one (.i .i64 (NS.length : Int))) ∧ T.get 89 = some (.one (.i .i64 (m : Int))) ∧ T.get 98 = some (.one (.i .i64 (n : Int))) ∧ T.get 99 = some (.one (.i .i64 (i : Int))) ∧ RowT h h6 n0 wb mb X pf bb bo B f x y a at_ HS AT LNS pl cc (LNS.flatMap Ln.gs) (fr + i) l) ?_ n _ _ ?_);rotate_left
    ·exact ⟨0, l, rfl, Nat.zero_le _, gt t1, gt t4, gt t9, gt t13, gs, gs, (Gu2 @t87 @hav), gt t88, gt t89, gs, gs, r5⟩
    clear r5 hone pc ix bx iy by_ hac hpr t1 t4 t9 t13 t87 t88 t89;rintro j T h6 ⟨i, l, rfl, hin, t1, t4, t9, t13, t14, t15, t87, t88, t89, t98, t99, r6⟩
    (repeat refine zS ?_); refine zR ?_
    (refine VX (zB (Gs2 @t98 @t99) (Gs2 @t98 @t99) zL) ?_)
    refine zN ?_; (repeat refine zS ?_);refine zC (ee) (fun hlt => W_skip ?_) (fun hge => W_exit ?_)
    ·have hi' : (i : Int) < (n : Int) := by simpa using hlt
     have hi' : i < n := by omega
     obtain ⟨C, hC⟩ : ∃ C, B.kids[fr + i]? = some C := ⟨_, List.getElem?_eq_getElem Om⟩;obtain ⟨xv, hxv⟩ : ∃ xv, r.x[i]? = some xv := ⟨_, List.getElem?_eq_getElem Om⟩;obtain ⟨yv, hyv⟩ : ∃ yv, r.y[i]? = some yv := ⟨_, List.getElem?_eq_getElem Om⟩;have hxc := hc2 xv (List.mem_of_getElem? hxv);have hyc := hc3 yv (List.mem_of_getElem? hyv);have hat : AT[m]? = some (AT.getD m 0) := getD_get Om;have han := hAn _ (List.mem_of_getElem? hat);generalize hav2 : AT.getD m 0 = av at *;have hone := r6.ones m p r hp hr;have hol := hone.lt;obtain ⟨vb, vo, vc, vx, xs, ys, pc, ix, bx, iy, by_⟩ := hone.at_;rw [hf1, hf2, hFR] at pc
     obtain ⟨sb, sc, sx, hxs, hxl, hxr⟩ : ∃ b c ex, xs = .sl b 0 r.x.length c 1 ex ∧ b < h6.next ∧ h6.row b i 1 = some [.i .i64 xv] := by
      rcases ix with ⟨q, _⟩ | ⟨b, c, ex, q, _, q2, q3⟩
      ·rw [q] at hxv; simp at hxv
      ·exact ⟨b, c, ex, q, q2, q3 i _ hxv⟩
     obtain ⟨yb, yc, yx, hys, hyl, hyr⟩ : ∃ b c ex, ys = .sl b 0 r.y.length c 1 ex ∧ b < h6.next ∧ h6.row b i 1 = some [.i .i64 yv] := by
      rcases iy with ⟨q, _⟩ | ⟨b, c, ex, q, _, q2, q3⟩
      ·rw [q] at hyv; simp at hyv
      ·exact ⟨b, c, ex, q, q2, q3 i _ hyv⟩
     rw [hxs, hys, hg2, hg3] at pc
     obtain ⟨tb, tc, tx, hat2, htl, htr⟩ : ∃ b c ex, at_ = .sl b 0 AT.length c 1 ex ∧ b < h6.next ∧ h6.row b m 1 = some [.i .i64 av] := by
      rcases r6.st.iv (at_, AT) (by simp) with ⟨q, _⟩ | ⟨b, c, ex, q, _, q2, q3⟩
      ·simp only at q; rw [q] at hat; simp at hat
      ·exact ⟨b, c, ex, q, q2, q3 m _ hat⟩
     rw [hat2, hAl] at t13
     obtain ⟨xb, hxx, hxcs, hxm⟩ : ∃ xb, x = .sl xb 0 B.kids.length B.kids.length 5 false ∧ Cells h6 xb 37 (flatG l) ∧ h6.may xb = true := by
      have hl6 := r6.ll;rcases r6.st.gx.grown with ⟨e, _⟩ | ⟨q, j, e, _, e2, e3, e4, _, _⟩
      ·have := congrArg List.length e; rw [flatG_len] at this; simp at this; omega
      ·have : j = B.kids.length := by rw [flatG_len] at e2; omega
       subst this; exact ⟨q, e, e3, e4⟩
     have hxb : h.next ≤ xb ∧ xb < h6.next := r6.st.gx.grown.lt (q := xb) (by rw [hxx]; rfl);rw [hxx] at t4;have c6 := r6.st;have hl6 := r6.ll;obtain ⟨kb, ko, kc, kx, hbk0, hkb, hbC0⟩ := k.box.kid hC;have hbk : h6.row bb (bo + 3) 1 = some [.sl kb ko B.kids.length kc 4 kx] := by rw [c6.up.row (low bb hbb)]; exact hbk0
     have hCv := hbC0.own.vok;have cf6 := c6.fr.cf;have plt := c6.fr.lt;have hn6 := c6.up.next;unfold Frm.cells at cf6
     have hlens : ∀ (j : Nat) (r : Ln) (z : Int), LNS[j]? = some r → NS[j]? = some z → r.x.length = z.toNat ∧ r.y.length = z.toNat := fun j r z h1 h2 => by
      obtain ⟨n', hz', _, hx', hy', _⟩ := hLn j r h1;rw [h2] at hz'; cases hz';rw [Int.toNat_natCast]; exact ⟨hx', hy'⟩
     have hX1 : (rowX LNS)[fr + i]? = some xv := by
      rw [← hFR]; unfold rowX;rw [flat_getC (NS := NS) (fun j r z h1 h2 => (hlens j r z h1 h2).1) hLl hr (by rw [hg2]; exact hi')]; exact hxv
     have hY1 : (rowY LNS AT)[fr + i]? = some (plI av yv) := by
      rw [← hFR];exact rowY_get (fun j r z h1 h2 => (hlens j r z h1 h2).2) hLl hat Om hr hyv
     have hci : cc (fr + i) = (putI B.vals C.vals xv, putI B.vals C.vals (plI av yv)) := by
      rw [← hcc]; simp only;rw [kv_of hC, List.getD_eq_getElem?_getD, hX1, List.getD_eq_getElem?_getD, hY1]; rfl
     repeat refine zS ?_
     refine W_cut (fun T2 h2 => ∃ l, T2.get 1 = some (.one (.p pf 0)) ∧ T2.get 4 = some (.one x) ∧ T2.get 9 = some (.one y) ∧ T2.get 13 = some (.one at_) ∧ T2.get 14 = some (.one (.i .i64 (m : Int))) ∧ T2.get 15 = some (.one (.p p 0)) ∧ T2.get 87 = some (.one a) ∧ T2.get 88 = some (.one (.i .i64 (NS.length : Int))) ∧ T2.get 89 = some (.one (.i .i64 (m : Int))) ∧ T2.get 98 = some (.one (.i .i64 (n : Int))) ∧ T2.get 99 = some (.one (.i .i64 (i : Int))) ∧ RowT h h2 n0 wb mb X pf bb bo B f x y a at_ HS AT LNS pl cc (LNS.flatMap Ln.gs) (fr + (i + 1)) l) ?_ ?_
     ·refine zK ?_
      (repeat refine zS ?_); refine zR ?_
      iterate 2 (refine VX (Ga1 @t99) ?_)
      refine zN ?_; (repeat refine zS ?_);refine W_drawn dr57_23 (by kernel_rfl) c6.ok.floor ?_;unfold dr57_23
      iterate 40 (first | (refine IX rfl (zB (by simp only [go_sem, ↓reduceIte, Nat.reduceEqDiff, t1, t4, t13, t14, t15, natAdd]; rfl) (by simp only [go_sem, ↓reduceIte, Nat.reduceEqDiff, t1, t4, t13, t14, t15, natAdd]; rfl) zA) ?_; (try rw [zI Om Om])) | (refine IL rfl zF (by simp only [go_sem, ↓reduceIte, Nat.reduceEqDiff, t1, t4, t13, t14, t15, natAdd]; rfl) (Gd6 @pc.row @cf6.row @hbk @hxr @hyr @htr) ?_) | (refine IX rfl (by simp (disch := first | omega | simp) only [go_sem, ↓reduceIte, Nat.reduceEqDiff, Nat.reduceAdd, t1, t4, t13, t14, t15, natAdd]; rfl) ?_) | (refine IX rfl (by simp only [go_sem, ↓reduceIte, Nat.reduceEqDiff, Nat.reduceAdd, t1, t4, t13, t14, t15, natAdd]; rfl) ?_))
      refine WI_bs1 rfl el26 ⟨_, ze26⟩ (ee) c6.ok Dc fun h7 n7 => ?_;have e7 := n7.next;have c7 := c6.upLt n7.up n7.ok;have bv7 := c7.fr.box.own;have cf7 := c7.fr.cf;have rf7 : h7.row pf 0 1 = some [.p bb bo] := by unfold Frm.cells at cf7; exact cf7.at1 rfl
      have plt7 := c7.fr.lt;have hn7 := c7.up.next;refine CP rfl (ee) (plus1 hs han hyc (n7.cells.fenced OffA)) ?_;refine CV rfl (ee) n7.ok (put_fn hs (n0 := n0) (f := f) (fv := B.vals) (kv := C.vals) (x := xv) (y := plI av yv) (n7.ok.fenced (fun b hb => OffA) (fun b hb => OffA) n7.ok.floor) (by simp only [fenced_next]; omega) (by rw [fenced_row OffA]; exact rf7) (by simp only [fenced_next]; omega) (bv7.val.fenced fun q hq => OffA) bv.vok ((hbC0.own.val.up c7.up low).fenced fun q hq => OffA) hCv hxc (plI_in _ _)) fun h8 u8 o8 hn8 => ?_;have u8 : Up (· < h7.next) h7 h8 := u8;have c8 := c7.upLt u8 o8;have hx8 := u8.cells (show xb < h7.next by omega) (n7.up.cells (show xb < h6.next by omega) hxcs);have mx8 : h8.may xb = true := by rw [u8.may, n7.up.may]; exact hxm
      (refine IX rfl (by simp (disch := first | omega | simp) only [go_sem, ↓reduceIte, Nat.reduceEqDiff, Nat.reduceAdd, natAdd]; rfl) ?_)
      (refine IX rfl (by simp only [go_sem, ↓reduceIte, Nat.reduceEqDiff, Nat.reduceAdd, natAdd]; rfl) ?_)
      refine WI_store1 rfl (ee) (ee) sz34 hx8 mx8 (by rw [flatG_len]; omega) OffA OffA (H.may_iff mx8).1.1 fun h9 p9 => ?_;obtain ⟨⟨g, ks⟩, hgl⟩ : ∃ p, l[fr + i]? = some p := ⟨_, List.getElem?_eq_getElem Om⟩
      have hgG : (LNS.flatMap Ln.gs)[fr + i]? = some g := by
       have := cornerK_get (c := cc) (k := fr + i) (G := LNS.flatMap Ln.gs);rw [← r6.gs, List.getElem?_map, hgl] at this;exact this.symm
      have p9 : Put h8 h9 xb 37 (flatG (l.set (fr + i) (g.corner (cc (fr + i)), ks))) := by rw [flatG_corner hgl, hci]; exact p9
      have c9 := c8.setX hxx Om p9 (by rw [List.length_set]; exact hl6) (fun p hp => by
       rcases List.mem_or_eq_of_mem_set hp with hp | hp
       ·exact c8.gx.kids p hp
       ·rw [hp];have := c8.gx.kids _ (List.mem_of_getElem? hgl)
        cases g; exact this)
      have hbx : S.blk x = some xb := by rw [hxx]; rfl
      have U9 : Up (fun q => q < h6.next ∧ S.blk x ≠ some q) h6 h9 := (n7.up.mono fun q hq => hq.1).trans ((u8.mono fun q hq => by omega).trans (p9.up.mono fun q hq e => hq.2 (by rw [hbx, e])));exact WI_nil ⟨by trivial, _, gt t1, (Gu2 @t4 @hxx), gt t9, (Gu3 @t13 @hat2 @hAl), gt t14, gt t15, gt t87, gt t88, gt t89, gt t98, gt t99, c9, by rw [List.length_set]; exact hl6, by rw [List.map_set, r6.gs]; exact cornerK_set hgG, fun j p' r' h1 h2 => (r6.ones j p' r' h1 h2).up U9 (fun q hq hq2 => ⟨hq2, hq.2.1⟩) fun q hq _ => hq⟩
     ·rintro T2 h2 ⟨l, t1, t4, t9, t13, t14, t15, t87, t88, t89, t98, t99, r7⟩;refine zR ?_
      (refine VX (zB (Gs1 @t99) (Gs1 @t99) zA) ?_; (try rw [zI Om Om]))
      (refine VX (Ga1 @t99) ?_)
      exact zN ⟨n - (i + 1), by omega, i + 1, l, rfl, hi', gt t1, gt t4, gt t9, gt t13, gt t14, gt t15, gt t87, gt t88, gt t89, gt t98, gs, r7⟩
    ·have hge2 : ¬ (i : Int) < (n : Int) := by simpa using hge
     have hiN : i = n := by omega
     rw [hiN] at r6;exact ⟨fun _ => ⟨rfl, l, t1, t4, t9, t13, t87, t88, t89, r6⟩, fun hne => absurd rfl hne⟩
   ·rintro T2 h2 ⟨l, t1, t4, t9, t13, t87, t88, t89, r6⟩;refine zR ?_
    (refine VX (zB (Gs1 @t89) (Gs1 @t89) zA) ?_; (try rw [zI Om Om]))
    (refine VX (Ga1 @t89) ?_)
    exact zN ⟨NS.length - (m + 1), by omega, m + 1, l, rfl, hm', gt t1, gt t4, gt t9, gt t13, gt t87, gt t88, gs, r6⟩
  ·have hge2 : ¬ (m : Int) < (NS.length : Int) := by simpa using hge
   have hmN : m = NS.length := by omega
   rw [hmN] at r5;exact ⟨fun _ => ⟨rfl, l, t4, t9, t13, r5⟩, fun hne => absurd rfl hne⟩
 rintro T h5 ⟨l5, t4, t9, t13, r5⟩;have c5 := r5.st;have hi1 : IntsAt h5 at_ AT := (c5.iv (at_, AT) (by simp)).ints;have hi2 : IntsAt h5 y HS := (c5.iv (y, HS) (by simp)).ints;have hl5 := r5.gs;have hGl : (LNS.flatMap Ln.gs).length = B.kids.length := by rw [← hgs, List.length_map]; exact hll3
 rw [cornerK_all Om] at hl5
 (repeat refine zS ?_); refine zR ?_
 iterate 3 (refine VX (Ga3 @t4 @t9 @t13) ?_)
 refine WO_fn (ee) hi1.pair Dc ((end_fn hs c5.ok hi1 hi2 Om Om hAn hHn).mono ?_);rintro _ h6 ⟨rfl, u6, o6⟩;have c6 := c5.upLt u6 o6
 iterate 2 (refine VO ?_)
 obtain ⟨q1, q2⟩ := c6.out;rw [hl5] at q1;exact zN (W_ret ⟨.inr rfl, _, RbA, x, rfl, q1, c6.up, q2, o6⟩)
end Go.Ai
