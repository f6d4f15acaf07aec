/-
LayoutWraps, part 37 of 48: FxLayV FxLayW.
-/
import Derived.Test.YthacbaagffpkoaaLw36
set_option linter.unusedVariables false
set_option linter.unusedSimpArgs false
set_option maxRecDepth 100000
set_option maxHeartbeats 0
namespace Go.Ai
open Go.Proofs
theorem IntsAt.pair {h : H} {v w : S} {l : List Int} (k : IntsAt h v l) : ∀ x y, [V.one v, .one w] ≠ [.one (.s x), .one (.s y)] := fun x y he => by
 have h1 : v = .s x := by injection he with e1 _; injection e1
 rcases k with ⟨_, rfl⟩ | ⟨b, c, ex, rfl, _⟩ <;> cases h1
theorem KidsAt.len {h h1 : H} {n0 : Nat} {kids : List BoxT} {v : S} (k : KidsAt h n0 kids v) {T : Sl} {x : Operand} (hx : ev T x = some (.one v)) {d : Option Tmp} {ty : TypeId} {ps : String} {af : Array Edge} {g : Option (Nat × Bool)} : execO Try.prog T h1 ⟨d, .call ⟨.builtin .len, #[x], #[29]⟩, ty, ps, af, g⟩ = some (.val (.one (.i .i64 (kids.length : Int))) h1) := by
 rcases k with ⟨rfl, rfl | rfl⟩ | ⟨kb, ko, c, ex, rfl, _⟩
 ·exact ex_len0 el29 hx
 ·exact ex_lenL el29 hx
 ·exact ex_len el29 hx
theorem flatG_corner {l : List (GeoT × S)} {i : Nat} {g : GeoT} {ks : S} {c : Int × Int} (hl : l[i]? = some (g, ks)) : flatG (l.set i (g.corner c, ks)) = (flatG l).take (i * 5 + 2) ++ [ptS c.1 c.2] ++ (flatG l).drop (i * 5 + 2 + 1) := by
 obtain ⟨hi, he⟩ := gEi.1 hl;have e : l = l.set i (g, ks) := by rw [← he, List.set_getElem_self]
 rw [flatG_set hi]
 conv => rhs; rw [e, flatG_set hi]
 have e1 : ((flatG l).take (i * 5)).length = i * 5 := by rw [List.length_take, flatG_len]; omega
 generalize (flatG l).take (i * 5) = A at *;generalize (flatG l).drop (i * 5 + 5) = D at *;have tk : ∀ m : List S, (A ++ m).take (i * 5 + 2) = A ++ m.take 2 := fun m => by rw [← e1, List.take_append, List.take_of_length_le Om]; congr 2; omega
 have dr : ∀ m : List S, (A ++ m).drop (i * 5 + 2 + 1) = m.drop 3 := fun m => by rw [← e1, List.drop_append, List.drop_of_length_le Om, List.nil_append]; congr 1; omega
 cases g with
 | mk t r cx cy w h kk =>
  rw [List.append_assoc A, List.append_assoc A, tk, dr];simp only [List.append_assoc];rfl
theorem mapK {α : Type} {fn : Kid → α} {B : BoxT} {k : Nat} {C : BoxT} (hC : B.kids[k]? = some C) : ((B.kids.map kidOf).map fn).take (k + 1) = ((B.kids.map kidOf).map fn).take k ++ [fn (kidOf C)] :=
 map_take (by rw [List.getElem?_map, hC]; rfl)
def cornerK (c : Nat → Int × Int) (k : Nat) (G : List GeoT) : List GeoT := G.mapIdx fun j g => if j < k then g.corner (c j) else g
theorem cornerK_zero {c : Nat → Int × Int} {G : List GeoT} : cornerK c 0 G = G := by
 unfold cornerK;refine List.ext_getElem? fun i => ?_;rw [List.getElem?_mapIdx]; simp
theorem cornerK_len {c : Nat → Int × Int} {k : Nat} {G : List GeoT} : (cornerK c k G).length = G.length := by unfold cornerK; simp
theorem cornerK_all {c : Nat → Int × Int} {k : Nat} {G : List GeoT} (h : G.length ≤ k) : cornerK c k G = cornered c G := by
 unfold cornerK cornered;refine List.ext_getElem? fun i => ?_;rw [List.getElem?_mapIdx, List.getElem?_mapIdx]
 by_cases hi : i < G.length
 ·rw [List.getElem?_eq_getElem hi]; simp; omega
 ·rw [List.getElem?_eq_none Om]; rfl
theorem cornerK_get {c : Nat → Int × Int} {k : Nat} {G : List GeoT} : (cornerK c k G)[k]? = G[k]? := by
 unfold cornerK;rw [List.getElem?_mapIdx]; simp
theorem cornerK_set {c : Nat → Int × Int} {k : Nat} {G : List GeoT} {g : GeoT} (hg : G[k]? = some g) : (cornerK c k G).set k (g.corner (c k)) = cornerK c (k + 1) G := by
 obtain ⟨hk, _⟩ := gEi.1 hg;refine List.ext_getElem? fun i => ?_
 by_cases hi : k = i
 ·subst hi;rw [List.getElem?_set_self (by rw [cornerK_len]; exact hk)];unfold cornerK;rw [List.getElem?_mapIdx, hg]; simp
 ·rw [List.getElem?_set_ne hi];unfold cornerK;rw [List.getElem?_mapIdx, List.getElem?_mapIdx]
  congr 1; funext g
  by_cases h1 : i < k
  ·rw [if_pos h1, if_pos Om]
  ·rw [if_neg h1, if_neg Om]
theorem kv_of {B : BoxT} {i : Nat} {C : BoxT} (hC : B.kids[i]? = some C) : kv (B.kids.map kidOf) i = C.vals := by
 unfold kv; rw [List.getElem?_map, hC]; exact kidOf_vals C
theorem HgtS.out {h0 h : H} {n0 wb mb pf po bb bo pe : Nat} {X : Nat → Prop} {B : BoxT} {f : Frm} {x y : S} {ro : List (S × List Int)} {ns : List Int} {l : List (GeoT × S)} {oc : List S} {z : Gz} (k : HgtS h0 h n0 wb mb X pf po bb bo B f x y ro l ns pe oc z) : GeosAt h (Al wb X) (l.map Prod.fst) x ∧ Fr h n0 wb mb X pf B bb bo f := by
 have p1 := k.lo;refine ⟨k.gx.geos (fun q hq => ⟨by have := (k.gx.grown.lt hq).1; omega, fun e => by have := k.hX q e; have := (k.gx.grown.lt hq).1; omega⟩) fun q h1 _ => ⟨h1.1, fun e => h1.2 (.inl e)⟩, k.fr.up (.refl (fun _ => True) h) (fun _ _ => trivial) (k.fr.map.mono (Nat.le_refl _) (fun _ _ _ _ h => h) (fun _ _ _ h => .inl h) k.fr.map.may)⟩
theorem block_fn {spec : CallF} (hs : SpecLay spec) {h : H} {n0 wb mb pf bb bo : Nat} {X : Nat → Prop} {B : BoxT} {f : Frm} (ok : Ok h) (k : Fr h n0 wb mb (Own X .sl0 .sl0 pf) pf B bb bo f) (hX : ∀ q, X q → q < h.next) (hL : ∀ C ∈ B.kids, LayFn spec C) :
  WF Try.prog spec 56 [.one (.p wb 0), .one (.p pf 0)] h fun r h1 => ∃ x, r = .tup [(false, [x]), (false, [.i .i64 (blockI B.vals f.inner (B.kids.map kidOf)).2])] ∧ GeosAt h1 (Al wb X) (blockI B.vals f.inner (B.kids.map kidOf)).1 x ∧ Up (fun q => q < h.next ∧ q ≠ mb ∧ q ≠ pf) h h1 ∧ Fr h1 n0 wb mb X pf B bb bo f ∧ Ok h1 := by
 obtain ⟨hkl, kS, hks, hkS⟩ := k.box.kidsS;have hlt := k.lt;have bv := k.box.own;have hbb := bv.val.lt;have mlt := k.map.lt;have gv := bv.vok.bd 14 Om;have hgap : 0 ≤ vAt B.vals 14 ∧ vAt B.vals 14 ≤ 1099511627776 := ⟨gv.1, by have : vAt B.vals 14 ≤ 1073741824 := gv.2; omega⟩
 have c0 : HgtS h h n0 wb mb X pf pf bb bo B f .sl0 .sl0 [] [] [] 83 (f.cells bb bo) :=
  ⟨k, hX, (fun p hp => by cases hp), k.cf, .inl rfl, hlt, (fun p hp => by cases hp), (fun p hp => by cases hp), hlt.2, .nil, .nil, (fun q hq => by cases hq), .refl _ _, ok, .nil, (fun q hq => by cases hq), (fun q hq => by cases hq)⟩
 refine WF_of Try.func56 rfl (hs.s _ _ _) (by rw [Try.ntmps56]; simp) (by rw [Try.ntmps56]; decide) ?_;rw [Try.ntmps56, Try.results56];simp only [Sl.setMany_cons, Sl.setMany_nil, Nat.zero_add, Nat.reduceAdd];have cf := k.cf;unfold Frm.cells at cf
 (repeat refine zS ?_); refine zR ?_
 iterate 2 (refine VO ?_)
 refine zN ?_; (repeat refine zS ?_);refine zR ?_;refine VO ?_;refine zN ?_; (repeat refine zS ?_);refine zR ?_
 iterate 7 (first | (refine VX (Gd2 @cf.row @hks) ?_) | (refine VO ?_))
 refine zV (hkS.len (ee)) Dc ?_;refine VO ?_;refine zN ?_; (repeat refine zS ?_);have low : ∀ q, q < n0 → q < h.next ∧ q ≠ mb ∧ q ≠ pf := fun q hq => by omega
 have hHl : (blockHs f.inner (B.kids.map kidOf)).length = B.kids.length := by unfold blockHs; simp
 have hGl : ((B.kids.map kidOf).map fun k => k.lay f.inner (-1) (-1)).length = B.kids.length := by simp
 refine W_cut (fun T h1 => ∃ x y l, T.get 0 = some (.one (.p wb 0)) ∧ T.get 1 = some (.one (.p pf 0)) ∧ T.get 4 = some (.one x) ∧ T.get 6 = some (.one y) ∧ l.map Prod.fst = ((B.kids.map kidOf).map fun k => k.lay f.inner (-1) (-1)) ∧
  HgtS h h1 n0 wb mb X pf pf bb bo B f x y [] l (blockHs f.inner (B.kids.map kidOf)) 83 (f.cells bb bo)) ?_ ?_
 ·refine zK (W_rounds (fun j T h1 => ∃ i x y l, j = B.kids.length - i ∧ i ≤ B.kids.length ∧ T.get 0 = some (.one (.p wb 0)) ∧ T.get 1 = some (.one (.p pf 0)) ∧ T.get 4 = some (.one x) ∧ T.get 6 = some (.one y) ∧ T.get 20 = some (.one (.i .i64 (B.kids.length : Int))) ∧ T.get 21 = some (.one (.i .i64 (i : Int))) ∧ l.map Prod.fst = ((B.kids.map kidOf).map fun k => k.lay f.inner (-1) (-1)).take i ∧
   HgtS h h1 n0 wb mb X pf pf bb bo B f x y [] l ((blockHs f.inner (B.kids.map kidOf)).take i) 83 (f.cells bb bo)) ?_ B.kids.length _ _ ?_)
  rotate_left
  ·exact ⟨0, .sl0, .sl0, [], rfl, Nat.zero_le _, gs, gs, gs, gs, gs, gs, by simp, c0⟩
  rintro j T h1 ⟨i, x, y, l, rfl, hin, t0, t1, t4, t6, t20, t21, hl, c1⟩
  (repeat refine zS ?_); refine zR ?_
  (refine VX (zB (Gs2 @t20 @t21) (Gs2 @t20 @t21) zL) ?_)
  refine zN ?_; (repeat refine zS ?_);refine zC (ee) (fun hlt => W_skip ?_) (fun hge => W_exit ?_)
  ·have hi' : (i : Int) < (B.kids.length : Int) := by simpa using hlt
   have hi' : i < B.kids.length := by omega
   obtain ⟨C, hC⟩ : ∃ C, B.kids[i]? = some C := ⟨_, List.getElem?_eq_getElem hi'⟩;have hLC := hL C (List.mem_of_getElem? hC);have hzG := mapK (fn := fun k => k.lay f.inner (-1) (-1)) hC;have hzH := mapK (fn := fun k => outH k (k.lay f.inner (-1) (-1))) hC;change (blockHs _ _).take _ = (blockHs _ _).take _ ++ _ at hzH;simp only [outH, kidOf_vals] at hzH;change _ = _ ++ [layI C f.inner (-1) (-1)] at hzG;change _ = _ ++ [outI (vAt C.vals 12) (layI C f.inner (-1) (-1)).h] at hzH;generalize blockHs f.inner (B.kids.map kidOf) = HS at *;generalize ((B.kids.map kidOf).map fun k => k.lay f.inner (-1) (-1)) = GS at *;obtain ⟨kb, ko, kc, kx, hbk0, hkb, hbC0⟩ := k.box.kid hC;have hbk : h1.row bb (bo + 3) 1 = some [.sl kb ko B.kids.length kc 4 kx] := by rw [c1.up.row (low bb hbb)]; exact hbk0
   have hbC : BoxAt h1 n0 C kb (ko + i * 4) := hbC0.mono fun q x hq hx => by rw [c1.up.get (low q hq)]; exact hx
   have hCv := hbC0.own.vok;have cf1 := c1.fr.cf;have plt := c1.fr.lt;have mlt1 := c1.fr.map.lt;have hn1 := c1.up.next;unfold Frm.cells at cf1
   repeat refine zS ?_
   refine W_cut (fun T2 h2 => ∃ x2 y2 l2, T2.get 0 = some (.one (.p wb 0)) ∧ T2.get 1 = some (.one (.p pf 0)) ∧ T2.get 4 = some (.one x2) ∧ T2.get 6 = some (.one y2) ∧ T2.get 20 = some (.one (.i .i64 (B.kids.length : Int))) ∧ T2.get 21 = some (.one (.i .i64 (i : Int))) ∧ l2.map Prod.fst = GS.take (i + 1) ∧
    HgtS h h2 n0 wb mb X pf pf bb bo B f x2 y2 [] l2 (HS.take (i + 1)) 83 (f.cells bb bo)) ?_ ?_
   ·refine zK ?_
    (repeat refine zS ?_); refine zR ?_
    iterate 2 (refine VX (Ga1 @t21) ?_)
    refine zN ?_; (repeat refine zS ?_);refine W_drawn dr56_5 (by kernel_rfl) c1.ok.floor ?_;unfold dr56_5
    iterate 14 (first | (refine IL rfl zF (Gs2 @t0 @t1) (Gd2 @cf1.row @hbk) ?_) | (refine IX rfl (Gd2 @t0 @t1) ?_) | (refine IX rfl (Ga2 @t0 @t1) ?_))
    refine WI_val (v := .agg [.p kb (ko + i * 4), .i .i64 f.inner, .i .i64 (-1), .i .i64 (-1)]) rfl zF rfl (by rw [ex_build]; exact bd_of (by kernel_rfl : placesOf Try.prog 75 = some [(0, 1), (1, 1), (2, 1), (3, 1)]) zb75 (by simp only [evParts, go_sem, ↓reduceIte, Nat.reduceEqDiff]; rfl) rfl) Dc ?_;refine WI_al rfl zb37 rfl c1.ok Dc fun h2 n2 => ?_;have e2 := n2.next;have hq : QOk f.inner (-1) (-1) := ⟨k.inner, by omega, by omega⟩;refine CLay (h0 := h1) (X := Beside (Own X x y pf) h1.next) rfl (Gt1 @t0) n2.ok (n2.ok.fenced (fun b hb => OffA) (fun b hb => OffA) n2.ok.floor) (c1.fr.map.beside (Nat.le_refl _)) (fun q hq => ?_) n2.up (fun q hq => OffA) OffA (H.may_iff (c1.fr.map.up n2.up).may).1.1 hbC hq hLC fun ks h4 g4 u4 m4 o4 hn4 => ?_
    ·rcases hq with hq | hq
     ·have := c1.own hq; omega
     ·omega
    have c24 := u4.cells (b := h1.next) ⟨by omega, by omega⟩ n2.cells;have m4t : h4.may h1.next = true := by rw [u4.may]; exact n2.may
    refine WI_storeA rfl (ee) (ee) sz37 (GeoT.cells_len _ _) (fun e => by have := congrArg List.length e; rw [GeoT.cells_len] at this; cases this) c24 m4t (by rw [GeoT.cells_len]; simp [V.cells]) OffA OffA (H.may_iff m4t).1.1 fun h5 p5 => ?_;have p5 := p5.whole (by rw [GeoT.cells_len]; rfl);have e5 := p5.next;have o5 := p5.ok o4;have c5 := c1.temp rfl n2.up u4 m4 p5 o5;have g5 := g4.aside p5;have r5 : h5.row h1.next 0 5 = some ((layI C f.inner (-1) (-1)).cells ks) := by have := p5.cells.all; rw [GeoT.cells_len] at this; exact this
    clear g4 m4 u4 c24;have hW := layI_w hCv hq;have hH := layI_h hCv hq;generalize layI C f.inner (-1) (-1) = G at *;refine WI_nil ?_; (repeat refine zS ?_);refine zR ?_
    (refine VX (Gd1 @r5) ?_)
    refine WO_fn (ee) (by simp) Dc ((size_fnG hs o5 hW hH).mono ?_);rintro _ h6 ⟨rfl, u6, o6⟩;have e6 := u6.next;have c6 := c5.upLt u6 o6;have g6 := g5.up u6 (fun q _ h => h) fun _ h _ => h
    have r6 : h6.row h1.next 0 5 = some (G.cells ks) := by rw [u6.row (show h1.next < h5.next by omega)]; exact r5
    iterate 5 (refine VO ?_)
    refine zN ?_; (repeat refine zS ?_);refine W_drawn dr56_7 (by kernel_rfl) c6.ok.floor ?_;unfold dr56_7;have cf6 := c6.fr.cf;have hbk6 : h6.row bb (bo + 3) 1 = some [.sl kb ko B.kids.length kc 4 kx] := by rw [c6.up.row (low bb hbb)]; exact hbk0
    unfold Frm.cells at cf6;have hll : l.length = i := by have := congrArg List.length hl; rw [List.length_map] at this; rw [this, List.length_take]; omega
    (refine IX rfl (Ga1 @t4) ?_)
    (refine IL rfl zF (Gs1 @t4) (Gd1 @r6) ?_)
    refine WI_bsA rfl el35 ze35 rfl Dc Dc (ee) (GeoT.cells_len _ _) o6 Dc fun h7 n7 => ?_;have e7 := n7.next;have c7 := c6.upLt n7.up n7.ok;have g7 := g6.up n7.up (fun q _ h => h) fun _ h _ => h
    have hn7 := c7.up.next;have cf7 := c7.fr.cf;have hbk7 : h7.row bb (bo + 3) 1 = some [.sl kb ko B.kids.length kc 4 kx] := by rw [c7.up.row (low bb hbb)]; exact hbk0
    unfold Frm.cells at cf7
    iterate 11 (first | (refine IL rfl zF (Gs2 @t1 @t6) (Gd2 @cf7.row @hbk7) ?_) | (refine IX rfl (Gd2 @t1 @t6) ?_) | (refine IX rfl (Ga2 @t1 @t6) ?_))
    refine WI_app (n0 := h.next) rfl ap35_35 (Gt1 @t4) (ee) n7.cells OffA (GeoT.cells_len _ _) c7.gx.grown (fun b hb => by
     have := c1.gx.grown.lt hb;refine ⟨OffA, OffA, ?_⟩;show h7.floor ≤ b;have q1 := c7.up.floor; have q4 := ok.floor
     omega) n7.ok (n7.ok.fenced (fun b hb => OffA) (fun b hb => OffA) n7.ok.floor) hn7 (mm := i) (by rw [flatG_len, hll]) Om Om Dc fun x8 h8 w8 => ?_
    have e8 := w8.next;have c8 := c7.moreX w8 g7;refine CV rfl (ee) w8.ok (outer_fn hs (w8.ok.fenced (fun b hb => OffA) (fun b hb => OffA) w8.ok.floor) ((hbC0.own.val.up c8.up low).fenced fun q hq => OffA) hCv hH.co) fun h9 u9 o9 hn9 => ?_;have u9 : Up (· < h8.next) h8 h9 := u9;have c9 := c8.upLt u9 o9;refine WI_bs1 rfl el26 ⟨_, ze26⟩ (ee) o9 Dc fun h10 n10 => ?_;have e10 := n10.next;have c10 := c9.upLt n10.up n10.ok;have hn10 := c10.up.next
    refine WI_app (n0 := h.next) rfl ap26_26 (Gt1 @t6) (ee) n10.cells OffA rfl c10.gy (fun b hb => by
     have := c1.gy.lt hb;refine ⟨OffA, OffA, ?_⟩;show h10.floor ≤ b;have q1 := c10.up.floor; have q4 := ok.floor
     omega) n10.ok (n10.ok.fenced (fun b hb => OffA) (fun b hb => OffA) n10.ok.floor) hn10 (mm := i) (by rw [nums_length, List.length_take]; omega) Om Om Dc fun y11 h11 w11 => ?_
    have c11 := c10.moreY w11;rw [← hzH] at c11
    iterate 2 (refine zO rfl ?_)
    exact WI_nil ⟨by trivial, x8, y11, l ++ [(G, ks)], gt t0, gt t1, gs, gs, gt t20, gt t21, by rw [List.map_append, hl, hzG]; rfl, c11⟩
   ·rintro T2 h2 ⟨x2, y2, l2, t0, t1, t4, t6, t20, t21, hl2, c2⟩;refine zR ?_
    (refine VX (zB (Gs1 @t21) (Gs1 @t21) zA) ?_; (try rw [zI Om Om]))
    (refine VX (Ga1 @t21) ?_)
    exact zN ⟨B.kids.length - (i + 1), by omega, i + 1, x2, y2, l2, rfl, hi', gt t0, gt t1, gt t4, gt t6, gt t20, gs, hl2, c2⟩
  ·have hge2 : ¬ (i : Int) < (B.kids.length : Int) := by simpa using hge
   have hiN : i = B.kids.length := by omega
   rw [hiN] at hl c1;rw [List.take_of_length_le Om] at hl c1;exact ⟨fun _ => ⟨rfl, x, y, l, t0, t1, t4, t6, hl, c1⟩, fun hne => absurd rfl hne⟩
 rintro T h1 ⟨x, y, l, t0, t1, t4, t6, hl, c1⟩
 have hHn : ∀ z ∈ blockHs f.inner (B.kids.map kidOf), CO z := fun z hz => by
  unfold blockHs at hz;obtain ⟨a, _, rfl⟩ := List.mem_map.1 hz;exact outI_co _ _
 have hll : l.length = B.kids.length := by have := congrArg List.length hl; rw [List.length_map, hGl] at this; exact this
 have hAl : (blockAt B.vals f.inner (B.kids.map kidOf)).length = B.kids.length := by unfold blockAt; rw [rowI_len]; exact hHl
 have hAn : ∀ z ∈ blockAt B.vals f.inner (B.kids.map kidOf), CO z := rowI_co _ _ _ (by unfold CO; omega);have hA : rowI [vAt B.vals 14] 0 (blockHs f.inner (B.kids.map kidOf)) = blockAt B.vals f.inner (B.kids.map kidOf) := rfl;have hB2 : (blockI B.vals f.inner (B.kids.map kidOf)).2 = endI (blockAt B.vals f.inner (B.kids.map kidOf)) (blockHs f.inner (B.kids.map kidOf)) := rfl;have hB1 : (blockI B.vals f.inner (B.kids.map kidOf)).1 = cornered (fun i => (putI B.vals (kv (B.kids.map kidOf) i) 0, putI B.vals (kv (B.kids.map kidOf) i) ((blockAt B.vals f.inner (B.kids.map kidOf)).getD i 0))) ((B.kids.map kidOf).map fun k => k.lay f.inner (-1) (-1)) := rfl;rw [hB1, hB2];generalize (B.kids.map kidOf).map (fun k => k.lay f.inner (-1) (-1)) = GS at *;generalize hcc : (fun i => (putI B.vals (kv (B.kids.map kidOf) i) 0, putI B.vals (kv (B.kids.map kidOf) i) ((blockAt B.vals f.inner (B.kids.map kidOf)).getD i 0))) = cc at *;have cf1 := c1.fr.cf;have bv1 := c1.fr.box.own;have hn1 := c1.up.next;unfold Frm.cells at cf1
 (repeat refine zS ?_); refine zR ?_
 iterate 4 (refine VX (Ga2 @t1 @t6) ?_)
 (refine VX (Gd3 @cf1.row @t1 @t6) ?_)
 refine WO_fn (ee) (by simp) Dc ((v_fn hs bv1.val (i := 14) (bv.vok.at Om).1).mono ?_);rintro _ h1 ⟨rfl, rfl⟩;refine WO_fn (Gt1 @t6) (by simp) Dc ((pile_fn hs c1.ok c1.gy.ints Om hHn (co_nn hgap)).mono ?_);rintro _ h2 ⟨at_, rfl, g2, u2, o2⟩;rw [hA] at g2;have e2 := u2.next;have hab : ∀ q, S.blk at_ = some q → h1.next ≤ q := fun q hq => (g2.lt hq).1
 have c2 := ((c1.upLt u2 o2).dropY).addRo (v := at_) (m := blockAt B.vals f.inner (B.kids.map kidOf)) (g2.intsIn Om) (fun e => by have := hab _ e; omega) (fun q hq => ⟨fun e => by have := hab _ hq; have := (c1.gx.grown.lt e).2; omega, fun e => by cases e⟩);generalize blockHs f.inner (B.kids.map kidOf) = HS at *;generalize blockAt B.vals f.inner (B.kids.map kidOf) = AT at *;refine VO ?_;refine zN ?_; (repeat refine zS ?_);refine zR ?_
 (refine VX (Ga1 @t4) ?_)
 refine zV (c2.gx.len (Gt1 @t4)) Dc ?_;rw [hll];refine VO ?_;refine zN ?_; (repeat refine zS ?_)
 refine W_cut (fun T h3 => ∃ l, T.get 4 = some (.one x) ∧ T.get 6 = some (.one y) ∧ T.get 11 = some (.one at_) ∧ l.map Prod.fst = cornered cc GS ∧
  HgtS h h3 n0 wb mb X pf pf bb bo B f x .sl0 (([] ++ [(y, HS)]) ++ [(at_, AT)]) l [] 83 (f.cells bb bo)) ?_ ?_
 ·refine zK (W_rounds (fun j T h3 => ∃ i l, j = B.kids.length - i ∧ i ≤ B.kids.length ∧ T.get 1 = some (.one (.p pf 0)) ∧ T.get 4 = some (.one x) ∧ T.get 6 = some (.one y) ∧ T.get 11 = some (.one at_) ∧ T.get 72 = some (.one (.i .i64 (B.kids.length : Int))) ∧ T.get 73 = some (.one (.i .i64 (i : Int))) ∧ l.length = B.kids.length ∧ l.map Prod.fst = cornerK cc i GS ∧
   HgtS h h3 n0 wb mb X pf pf bb bo B f x .sl0 (([] ++ [(y, HS)]) ++ [(at_, AT)]) l [] 83 (f.cells bb bo)) ?_ B.kids.length _ _ ?_)
  rotate_left
  ·exact ⟨0, l, rfl, Nat.zero_le _, gt t1, gt t4, gt t6, gs, gs, gs, hll, by rw [cornerK_zero]; exact hl, c2⟩
  clear c2 hl hll;rintro j T h3 ⟨i, l, rfl, hin, t1, t4, t6, t11, t72, t73, hll, hl, c3⟩
  (repeat refine zS ?_); refine zR ?_
  (refine VX (zB (Gs2 @t72 @t73) (Gs2 @t72 @t73) zL) ?_)
  refine zN ?_; (repeat refine zS ?_);refine zC (ee) (fun hlt => W_skip ?_) (fun hge => W_exit ?_)
  ·have hi' : (i : Int) < (B.kids.length : Int) := by simpa using hlt
   have hi' : i < B.kids.length := by omega
   obtain ⟨C, hC⟩ : ∃ C, B.kids[i]? = some C := ⟨_, List.getElem?_eq_getElem hi'⟩;have hat : AT[i]? = some (AT.getD i 0) := getD_get Om;have han := hAn _ (List.mem_of_getElem? hat);obtain ⟨kb, ko, kc, kx, hbk0, hkb, hbC0⟩ := k.box.kid hC;have hbk : h3.row bb (bo + 3) 1 = some [.sl kb ko B.kids.length kc 4 kx] := by rw [c3.up.row (low bb hbb)]; exact hbk0
   have hCv := hbC0.own.vok;have hci : cc i = (putI B.vals C.vals 0, putI B.vals C.vals (AT.getD i 0)) := by rw [← hcc]; simp only; rw [kv_of hC]
   obtain ⟨ab, ac, ax, rfl, hab2, har⟩ : ∃ b c ex, at_ = .sl b 0 AT.length c 1 ex ∧ b < h3.next ∧ h3.row b i 1 = some [.i .i64 (AT.getD i 0)] := by
    rcases c3.iv (at_, AT) (by simp) with ⟨q, _⟩ | ⟨b, c, ex, q, _, q2, q3⟩
    ·simp only at q; rw [q] at hat; simp at hat
    ·exact ⟨b, c, ex, q, q2, q3 i _ hat⟩
   obtain ⟨xb, rfl, hxc, hxm⟩ : ∃ xb, x = .sl xb 0 B.kids.length B.kids.length 5 false ∧ Cells h3 xb 37 (flatG l) ∧ h3.may xb = true := by
    rcases c3.gx.grown with ⟨e, _⟩ | ⟨q, m, rfl, _, e2, e3, e4, _, _⟩
    ·have := congrArg List.length e; rw [flatG_len] at this; simp at this; omega
    ·have : m = B.kids.length := by rw [flatG_len] at e2; omega
     subst this; exact ⟨q, rfl, e3, e4⟩
   have hxb := c3.gx.grown.lt (q := xb) rfl;have cf3 := c3.fr.cf;have bv3 := c3.fr.box.own;have plt := c3.fr.lt;have hn3 := c3.up.next;have rf3 : h3.row pf 0 1 = some [.p bb bo] := by unfold Frm.cells at cf3; exact cf3.at1 rfl
   unfold Frm.cells at cf3
   repeat refine zS ?_
   refine W_cut (fun T2 h2 => ∃ l2, T2.get 1 = some (.one (.p pf 0)) ∧ T2.get 4 = some (.one (.sl xb 0 B.kids.length B.kids.length 5 false)) ∧ T2.get 6 = some (.one y) ∧ T2.get 11 = some (.one (.sl ab 0 AT.length ac 1 ax)) ∧ T2.get 72 = some (.one (.i .i64 (B.kids.length : Int))) ∧ T2.get 73 = some (.one (.i .i64 (i : Int))) ∧ l2.length = B.kids.length ∧ l2.map Prod.fst = cornerK cc (i + 1) GS ∧
    HgtS h h2 n0 wb mb X pf pf bb bo B f (.sl xb 0 B.kids.length B.kids.length 5 false) .sl0 (([] ++ [(y, HS)]) ++ [(.sl ab 0 AT.length ac 1 ax, AT)]) l2 [] 83 (f.cells bb bo)) ?_ ?_
   ·refine zK ?_
    (repeat refine zS ?_); refine zR ?_
    iterate 2 (refine VX (Ga1 @t73) ?_)
    refine zN ?_; (repeat refine zS ?_);refine W_drawn dr56_13 (by kernel_rfl) c3.ok.floor ?_;unfold dr56_13
    iterate 16 (first | (refine IL rfl zF (Gs3 @t1 @t4 @t11) (Gd3 @cf3.row @hbk @har) ?_) | (refine IX rfl (Gd3 @t1 @t4 @t11) ?_) | (refine IX rfl (Ga3 @t1 @t4 @t11) ?_))
    refine CV rfl (ee) c3.ok (put_fn hs (n0 := n0) (f := f) (fv := B.vals) (kv := C.vals) (x := 0) (y := AT.getD i 0) (c3.ok.fenced (fun b hb => OffA) (fun b hb => OffA) c3.ok.floor) (by simp only [fenced_next]; omega) (by rw [fenced_row OffA]; exact rf3) (by simp only [fenced_next]; omega) (bv3.val.fenced fun q hq => OffA) bv.vok ((hbC0.own.val.up c3.up low).fenced fun q hq => OffA) hCv (by unfold CO; omega) han) fun h4 u4 o4 hn4 => ?_;have u4 : Up (· < h3.next) h3 h4 := u4;have c4 := c3.upLt u4 o4;have hx4 := u4.cells (show xb < h3.next by omega) hxc;have mx4 : h4.may xb = true := by rw [u4.may]; exact hxm
    (refine IX rfl (Gd1 @t4) ?_)
    (refine IX rfl (Ga1 @t4) ?_)
    refine WI_store1 rfl (ee) (ee) sz34 hx4 mx4 (by rw [flatG_len]; omega) OffA OffA (H.may_iff mx4).1.1 fun h5 p5 => ?_;obtain ⟨⟨g, ks⟩, hgl⟩ : ∃ p, l[i]? = some p := ⟨_, List.getElem?_eq_getElem Om⟩
    have hgG : GS[i]? = some g := by
     have := cornerK_get (c := cc) (k := i) (G := GS);rw [← hl, List.getElem?_map, hgl] at this;exact this.symm
    have p5 : Put h4 h5 xb 37 (flatG (l.set i (g.corner (cc i), ks))) := by rw [flatG_corner hgl, hci]; exact p5
    have c5 := c4.setX rfl Om p5 (by rw [List.length_set]; exact hll) (fun p hp => by
     rcases List.mem_or_eq_of_mem_set hp with hp | hp
     ·exact c4.gx.kids p hp
     ·rw [hp];have := c4.gx.kids _ (List.mem_of_getElem? hgl)
      cases g; exact this)
    exact WI_nil ⟨by trivial, _, gt t1, gt t4, gt t6, gt t11, gt t72, gt t73, by rw [List.length_set]; exact hll, by rw [List.map_set, hl]; exact cornerK_set hgG, c5⟩
   ·rintro T2 h2 ⟨l2, t1, t4, t6, t11, t72, t73, hll2, hl2, c5⟩;refine zR ?_
    (refine VX (zB (Gs1 @t73) (Gs1 @t73) zA) ?_; (try rw [zI Om Om]))
    (refine VX (Ga1 @t73) ?_)
    exact zN ⟨B.kids.length - (i + 1), by omega, i + 1, l2, rfl, hi', gt t1, gt t4, gt t6, gt t11, gt t72, gs, hll2, hl2, c5⟩
  ·have hge2 : ¬ (i : Int) < (B.kids.length : Int) := by simpa using hge
   have hiN : i = B.kids.length := by omega
   rw [hiN, cornerK_all Om] at hl;exact ⟨fun _ => ⟨rfl, l, t4, t6, t11, hl, c3⟩, fun hne => absurd rfl hne⟩
 rintro T h3 ⟨l3, t4, t6, t11, hl3, c3⟩;have hi1 : IntsAt h3 at_ AT := (c3.iv (at_, AT) (by simp)).ints;have hi2 : IntsAt h3 y HS := (c3.iv (y, HS) (by simp)).ints;have c3n := c3.up.next
 (repeat refine zS ?_); refine zR ?_
 iterate 3 (refine VX (Ga3 @t4 @t6 @t11) ?_)
 refine WO_fn (ee) hi1.pair Dc ((end_fn hs c3.ok hi1 hi2 Om Om hAn hHn).mono ?_);rintro _ h4 ⟨rfl, u4, o4⟩;have c4 := c3.upLt u4 o4
 iterate 2 (refine VO ?_)
 obtain ⟨q1, q2⟩ := c4.out;rw [hl3] at q1;exact zN (W_ret ⟨.inr rfl, _, RbA, x, rfl, q1, c4.up, q2, o4⟩)
end Go.Ai
namespace Go.Ai
open Go.Proofs
def flatI (L : List Itm) : List S := L.flatMap Itm.cells
theorem flatI_len : ∀ (l : List Itm), (flatI l).length = l.length * 5
 | [] => rfl
 | p :: l => by
  show (p.cells ++ flatI l).length = _;rw [List.length_append, flatI_len l, List.length_cons]; simp [Itm.cells]; omega
theorem flatI_append (l m : List Itm) : flatI (l ++ m) = flatI l ++ flatI m := by unfold flatI; rw [List.flatMap_append]
theorem flatI_get : ∀ {l : List Itm} {i : Nat} {p : Itm}, l[i]? = some p → ((flatI l).drop (i * 5)).take 5 = p.cells
 | [], i, p, h => by simp at h
 | q :: l, 0, p, h => by
  simp only [List.length_cons, Nat.zero_lt_succ, List.getElem?_cons_zero, Option.some.injEq] at h;subst h; rfl
 | q :: l, i + 1, p, h => by
  rw [List.getElem?_cons_succ] at h;rw [show (i + 1) * 5 = i * 5 + 5 by omega];show ((q.cells ++ flatI l).drop (i * 5 + 5)).take 5 = _;rw [List.drop_append, List.drop_eq_nil_of_le (by simp [Itm.cells]), List.nil_append];have : i * 5 + 5 - q.cells.length = i * 5 := by simp [Itm.cells]
  rw [this];exact flatI_get h
theorem Grown.items {h : H} {v : S} {n0 : Nat} {L : List Itm} (k : Grown h v n0 109 5 (flatI L)) : ItemsAt h v L := by
 rcases k with ⟨e, rfl⟩ | ⟨q, n, rfl, h1, h2, h3, h4, h5, h6⟩
 ·exact .inl ⟨List.eq_nil_of_length_eq_zero (by have := congrArg List.length e; rw [flatI_len] at this; simp at this; omega), .inl rfl⟩
 ·have e : n = L.length := by rw [flatI_len] at h2; omega
  subst e;refine .inr ⟨q, 0, _, _, rfl, h6, fun i y hy => ?_⟩;obtain ⟨hlt, _⟩ := gEi.1 hy;rw [Nat.zero_add, h3.row (by rw [flatI_len]; omega), flatI_get hy]
theorem down_fn {spec : CallF} (hs : SpecLay spec) {h : H} {n0 wb mb pf bb bo : Nat} {X : Nat → Prop} {B : BoxT} {f : Frm} (ok : Ok h) (k : Fr h n0 wb mb (Own X .sl0 .sl0 pf) pf B bb bo f) (hX : ∀ q, X q → q < h.next) (hL : ∀ C ∈ B.kids, LayFn spec C) :
  WF Try.prog spec 73 [.one (.p wb 0), .one (.p pf 0)] h fun r h1 => ∃ v, r = .one v ∧ HgtS h h1 n0 wb mb X pf pf bb bo B f .sl0 .sl0 [] [] [] 83 (f.cells bb bo) ⟨v, 109, 5, flatI (downI f.inner (B.kids.map kidOf))⟩ := by
 obtain ⟨hkl, kS, hks, hkS⟩ := k.box.kidsS;have hlt := k.lt;have bv := k.box.own;have hbb := bv.val.lt;have mlt := k.map.lt
 have c0 : HgtS h h n0 wb mb X pf pf bb bo B f .sl0 .sl0 [] [] [] 83 (f.cells bb bo) ⟨.sl0, 109, 5, []⟩ :=
  ⟨k, hX, (fun p hp => by cases hp), k.cf, .inl rfl, hlt, (fun p hp => by cases hp), (fun p hp => by cases hp), hlt.2, .nil, .nil, (fun q hq => by cases hq), .refl _ _, ok, .nil, (fun q hq => by cases hq), (fun q hq => by cases hq)⟩
 refine WF_of Try.func73 rfl (hs.s _ _ _) (by rw [Try.ntmps73]; simp) (by rw [Try.ntmps73]; decide) ?_;rw [Try.ntmps73, Try.results73];simp only [Sl.setMany_cons, Sl.setMany_nil, Nat.zero_add, Nat.reduceAdd];have cf := k.cf;unfold Frm.cells at cf
 (repeat refine zS ?_); refine zR ?_
 refine VO ?_;refine zN ?_; (repeat refine zS ?_);refine zR ?_
 iterate 7 (first | (refine VX (Gd2 @cf.row @hks) ?_) | (refine VO ?_))
 refine zV (hkS.len (ee)) Dc ?_;refine VO ?_;refine zN ?_; (repeat refine zS ?_);have low : ∀ q, q < n0 → q < h.next ∧ q ≠ mb ∧ q ≠ pf := fun q hq => by omega
 have hDl : (downI f.inner (B.kids.map kidOf)).length = B.kids.length := by unfold downI; simp
 refine zK (W_rounds (fun j T h1 => ∃ i v, j = B.kids.length - i ∧ i ≤ B.kids.length ∧ T.get 0 = some (.one (.p wb 0)) ∧ T.get 1 = some (.one (.p pf 0)) ∧ T.get 4 = some (.one v) ∧ T.get 15 = some (.one (.i .i64 (B.kids.length : Int))) ∧ T.get 16 = some (.one (.i .i64 (i : Int))) ∧
  HgtS h h1 n0 wb mb X pf pf bb bo B f .sl0 .sl0 [] [] [] 83 (f.cells bb bo) ⟨v, 109, 5, flatI ((downI f.inner (B.kids.map kidOf)).take i)⟩) ?_ B.kids.length _ _ ?_)
 rotate_left
 ·exact ⟨0, .sl0, rfl, Nat.zero_le _, gs, gs, gs, gs, gs, c0⟩
 rintro j T h1 ⟨i, v, rfl, hin, t0, t1, t4, t15, t16, c1⟩
 (repeat refine zS ?_); refine zR ?_
 (refine VX (zB (Gs2 @t15 @t16) (Gs2 @t15 @t16) zL) ?_)
 refine zN ?_; (repeat refine zS ?_);refine zC (ee) (fun hlt => W_skip ?_) (fun hge => W_exit ?_)
 ·have hi' : (i : Int) < (B.kids.length : Int) := by simpa using hlt
  have hi' : i < B.kids.length := by omega
  obtain ⟨C, hC⟩ : ∃ C, B.kids[i]? = some C := ⟨_, List.getElem?_eq_getElem hi'⟩;have hLC := hL C (List.mem_of_getElem? hC);have hzD := mapK (fn := fun k => itemI k.vals (if vAt k.vals 11 = -1 then (k.lay f.inner (-1) (-1)).h else vAt k.vals 11) (vAt k.vals 7) (vAt k.vals 8)) hC;change (downI _ _).take _ = (downI _ _).take _ ++ _ at hzD;simp only [kidOf_vals] at hzD;change _ = _ ++ [itemI C.vals (if vAt C.vals 11 = -1 then (layI C f.inner (-1) (-1)).h else vAt C.vals 11) (vAt C.vals 7) (vAt C.vals 8)] at hzD;generalize downI f.inner (B.kids.map kidOf) = DI at *;obtain ⟨kb, ko, kc, kx, hbk0, hkb, hbC0⟩ := k.box.kid hC;have hbk : h1.row bb (bo + 3) 1 = some [.sl kb ko B.kids.length kc 4 kx] := by rw [c1.up.row (low bb hbb)]; exact hbk0
  have hbC : BoxAt h1 n0 C kb (ko + i * 4) := hbC0.mono fun q x hq hx => by rw [c1.up.get (low q hq)]; exact hx
  have hCv := hbC0.own.vok;have cf1 := c1.fr.cf;have plt := c1.fr.lt;have mlt1 := c1.fr.map.lt;have hn1 := c1.up.next;have hq : QOk f.inner (-1) (-1) := ⟨k.inner, by omega, by omega⟩;have h11 : -1 ≤ vAt C.vals 11 ∧ vAt C.vals 11 ≤ 1099511627776 := hCv.bd 11 Om;unfold Frm.cells at cf1
  repeat refine zS ?_
  refine W_cut (fun T2 h2 => ∃ v2, T2.get 0 = some (.one (.p wb 0)) ∧ T2.get 1 = some (.one (.p pf 0)) ∧ T2.get 4 = some (.one v2) ∧ T2.get 15 = some (.one (.i .i64 (B.kids.length : Int))) ∧ T2.get 16 = some (.one (.i .i64 (i : Int))) ∧
   HgtS h h2 n0 wb mb X pf pf bb bo B f .sl0 .sl0 [] [] [] 83 (f.cells bb bo) ⟨v2, 109, 5, flatI (DI.take (i + 1))⟩) ?_ ?_
  ·refine zK ?_
   (repeat refine zS ?_); refine zR ?_
   iterate 2 (refine VX (Ga1 @t16) ?_)
   refine zN ?_; (repeat refine zS ?_);refine zR ?_
   iterate 10 (first | (refine VX (Gd3 @cf1.row @hbk @t1) ?_) | (refine VX (Gd1 @t1) ?_) | (refine VX (Ga1 @t1) ?_))
   refine zN ?_; (repeat refine zS ?_);refine zR ?_;refine VO ?_;refine WO_fn (ee) (by simp) Dc ((v_fn hs hbC.own.val (i := 11) (hCv.at Om).1).mono ?_);rintro _ h1 ⟨rfl, rfl⟩;refine VO ?_;refine zN ?_;refine zS ?_
   refine W_cut (fun T2 h2 => T2.get 0 = some (.one (.p wb 0)) ∧ T2.get 1 = some (.one (.p pf 0)) ∧ T2.get 4 = some (.one v) ∧ T2.get 6 = some (.one (.p kb (ko + i * 4))) ∧ T2.get 7 = some (.one (.i .i64 (if vAt C.vals 11 = -1 then (layI C f.inner (-1) (-1)).h else vAt C.vals 11))) ∧ T2.get 15 = some (.one (.i .i64 (B.kids.length : Int))) ∧ T2.get 16 = some (.one (.i .i64 (i : Int))) ∧
    HgtS h h2 n0 wb mb X pf pf bb bo B f .sl0 .sl0 [] [] [] 83 (f.cells bb bo) ⟨v, 109, 5, flatI (DI.take i)⟩) ?_ ?_
   ·(repeat refine zS ?_); refine zR ?_
    refine VO ?_
    (refine VX (zB ee ee in_eql) ?_)
    refine zN ?_; (repeat refine zS ?_);refine zC (ee) (fun hc => ?_) (fun hc => W_skip ?_)
    ·have hc : vAt C.vals 11 = -1 := by simpa using hc
     rw [if_pos hc];refine zR ?_
     iterate 5 (refine VX (Ga2 @t0 @t1) ?_)
     (refine VX (Gd3 @cf1.row @t0 @t1) ?_)
     refine zV (v := .agg [.p kb (ko + i * 4), .i .i64 f.inner, .i .i64 (-1), .i .i64 (-1)]) (by rw [ex_build]; exact bd_of (by kernel_rfl : placesOf Try.prog 75 = some [(0, 1), (1, 1), (2, 1), (3, 1)]) zb75 (by simp only [evParts, go_sem, ↓reduceIte, Nat.reduceEqDiff]; rfl) rfl) Dc ?_;refine WO_fn (Gt1 @t0) (by simp) Dc ((hLC _ n0 wb mb kb (ko + i * 4) (Own X .sl0 .sl0 pf v) f.inner (-1) (-1) c1.ok c1.fr.map (fun q hq => c1.own hq) hbC hq).mono ?_);rintro _ h2 ⟨ks, rfl, g2, u2, m2, o2⟩;have c2 := c1.lay u2 m2 o2;refine WO_fn (ee) (by simp) Dc ((size_fnG hs o2 (layI_w hCv hq) (layI_h hCv hq)).mono ?_);rintro _ h3 ⟨rfl, u3, o3⟩;have c3 := c2.upLt u3 o3
     iterate 4 (refine VO ?_)
     exact zN ⟨rfl, gt t0, gt t1, gt t4, gs, gs, gt t15, gt t16, c3⟩
    ·have hc : ¬ vAt C.vals 11 = -1 := by simpa using hc
     rw [if_neg hc];exact ⟨rfl, gt t0, gt t1, gt t4, gs, gs, gt t15, gt t16, c1⟩
   clear c1 cf1 plt mlt1 hn1 hbk hbC t0 t1 t4 t15 t16;rintro T h2 ⟨t0, t1, t4, t6, t7, t15, t16, c2⟩
   have hb : CO (if vAt C.vals 11 = -1 then (layI C f.inner (-1) (-1)).h else vAt C.vals 11) := by
    split
    ·exact (layI_h hCv hq).co
    ·exact co_of h11
   generalize (if vAt C.vals 11 = -1 then (layI C f.inner (-1) (-1)).h else vAt C.vals 11) = base at *;have vC : Vals h2 n0 kb (ko + i * 4) C.vals := hbC0.own.val.up c2.up low;have hn2 := c2.up.next
   (repeat refine zS ?_); refine zR ?_
   iterate 4 (refine VX (Ga3 @t4 @t6 @t7) ?_)
   refine WO_fn (Gt1 @t6) (by simp) Dc ((v_fn hs vC (i := 7) (hCv.at Om).1).mono ?_);rintro _ h2 ⟨rfl, rfl⟩
   (refine VX (Ga1 @t6) ?_)
   refine WO_fn (Gt1 @t6) (by simp) Dc ((v_fn hs vC (i := 8) (hCv.at Om).1).mono ?_);rintro _ h2 ⟨rfl, rfl⟩;refine WO_fn (Gt2 @t6 @t7) (by simp) Dc ((item_fn hs c2.ok Om vC hCv hb (hCv.at Om).2.2.2 (hCv.at Om).2.2.2).mono ?_);rintro _ h3 ⟨rfl, u3, o3⟩;have c3 := c2.upLt u3 o3;refine WO_bsA el107 ze107 rfl Dc Dc (ee) rfl o3 Dc fun h4 n4 => ?_;have c4 := c3.upLt n4.up n4.ok;have hn4 := c4.up.next;refine WO_app (n0 := h.next) ap107_107 (Gt1 @t4) (ee) n4.cells rfl c4.gz n4.ok hn4 (m := i) (by rw [flatI_len, List.length_take]; omega) Om Om Dc fun v5 h5 w5 => ?_;have c5 := c4.moreZ w5 (fun p hp => by cases hp);refine VO ?_;refine zN ⟨rfl, v5, gt t0, gt t1, gs, gt t15, gt t16, ?_⟩;rw [hzD, flatI_append, show flatI [itemI C.vals base (vAt C.vals 7) (vAt C.vals 8)] = (itemI C.vals base (vAt C.vals 7) (vAt C.vals 8)).cells by simp [flatI]];exact c5
  ·rintro T2 h2 ⟨v2, t0, t1, t4, t15, t16, c2⟩;refine zR ?_
   (refine VX (zB (Gs1 @t16) (Gs1 @t16) zA) ?_; (try rw [zI Om Om]))
   (refine VX (Ga1 @t16) ?_)
   exact zN ⟨B.kids.length - (i + 1), by omega, i + 1, v2, rfl, hi', gt t0, gt t1, gt t4, gt t15, gs, c2⟩
 ·have hge2 : ¬ (i : Int) < (B.kids.length : Int) := by simpa using hge
  have hiN : i = B.kids.length := by omega
  refine ⟨fun _ => ?_, fun hne => absurd rfl hne⟩;rw [hiN, List.take_of_length_le Om] at c1
  (repeat refine zS ?_); refine zR ?_
  iterate 2 (refine VX (Ga1 @t4) ?_)
  exact zN (W_ret ⟨.inr rfl, _, RbA, v, rfl, c1⟩)
end Go.Ai
