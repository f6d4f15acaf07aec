/-
LayoutWraps, part 36 of 48: FxLayU.
-/
import Derived.Test.YthacbaagffpkoaaLw35
set_option linter.unusedVariables false
set_option linter.unusedSimpArgs false
set_option maxRecDepth 100000
set_option maxHeartbeats 0
namespace Go.Ai
open Go.Proofs
theorem FO121_0 {h : H} {a : S} {r : List S} : doField Try.prog h 121 0 (some (.agg (a :: r))) = some (.val (.one a) h) := fo_one fo121_0 rfl
theorem SpecLay.flex {spec : CallF} (hs : SpecLay spec) : SpecFlex spec := ⟨fun _ _ => hs.s _ _ _, fun _ _ => hs.s _ _ _, fun _ _ => hs.s _ _ _, fun _ _ => hs.s _ _ _, fun _ _ => hs.s _ _ _, fun _ _ => hs.s _ _ _, fun _ _ => hs.s _ _ _, fun _ _ => hs.s _ _ _, fun _ _ => hs.s _ _ _, fun _ _ => hs.s _ _ _, fun _ _ => hs.s _ _ _, fun _ _ => hs.s _ _ _, fun _ _ => hs.s _ _ _⟩
theorem SpecLay.sort {spec : CallF} (hs : SpecLay spec) : SpecSort spec := ⟨fun _ _ => hs.s _ _ _, fun _ _ => hs.s _ _ _, fun _ _ => hs.s _ _ _, fun _ _ => hs.s _ _ _, fun _ _ => hs.s _ _ _, fun _ _ => hs.s _ _ _, fun _ _ => hs.s _ _ _, fun _ _ => hs.s _ _ _, fun _ _ => hs.s _ _ _, fun _ _ => hs.s _ _ _, fun _ _ => hs.s _ _ _⟩
theorem GList.len {h h1 : H} {A : Nat → Prop} {n0 : Nat} {v : S} {l : List (GeoT × S)} (k : GList h A n0 v l) {T : Sl} {x : Operand} (hx : ev T x = some (.one v)) {d : Option Tmp} {ty : TypeId} {ps : String} {af : Array Edge} {g : Option (Nat × Bool)} : execO Try.prog T h1 ⟨d, .call ⟨.builtin .len, #[x], #[35]⟩, ty, ps, af, g⟩ = some (.val (.one (.i .i64 (l.length : Int))) h1) := by
 rcases k.grown with ⟨e, rfl⟩ | ⟨q, n, rfl, h1, h2, h3, h4, h5, h6⟩
 ·have : l.length = 0 := by have := congrArg List.length e; rw [flatG_len] at this; simp at this; omega
  rw [this]; exact ex_len0 el35 hx
 ·have : n = l.length := by rw [flatG_len] at h2; omega
  subst this; exact ex_len el35 hx
theorem HgtS.addRo {h0 h : H} {n0 wb mb pf po bb bo pe : Nat} {X : Nat → Prop} {B : BoxT} {f : Frm} {x y : S} {ro : List (S × List Int)} {ns : List Int} {l : List (GeoT × S)} {oc : List S} {z : Gz} (k : HgtS h0 h n0 wb mb X pf po bb bo B f x y ro l ns pe oc z) {v : S} {m : List Int} (hi : IntsIn h (wb + 1) v m) (h1 : S.blk v ≠ some po) (h2 : ∀ q, S.blk v = some q → S.blk x ≠ some q ∧ S.blk y ≠ some q) : HgtS h0 h n0 wb mb X pf po bb bo B f x y (ro ++ [(v, m)]) l ns pe oc z :=
 ⟨k.fr, k.hX, fun p hp => by
  rcases List.mem_append.1 hp with hp | hp
  ·exact k.iv p hp
  ·rw [List.mem_singleton.1 hp]; exact hi, k.co, k.mo, k.lo, fun p hp => by
  rcases List.mem_append.1 hp with hp | hp
  ·exact k.so p hp
  ·rw [List.mem_singleton.1 hp]; exact h1, fun p hp q hq => by
  rcases List.mem_append.1 hp with hp | hp
  ·exact k.sx p hp q hq
  ·rw [List.mem_singleton.1 hp] at hq; exact h2 q hq, k.lf, k.gx, k.gy, k.xy, k.up, k.ok, k.gz, k.xz, k.yz⟩
theorem flatG_set : ∀ {l : List (GeoT × S)} {i : Nat} {p : GeoT × S}, i < l.length → flatG (l.set i p) = (flatG l).take (i * 5) ++ p.1.cells p.2 ++ (flatG l).drop (i * 5 + 5)
 | [], i, p, h => by simp at h
 | q :: l, 0, p, h => by
  show p.1.cells p.2 ++ flatG l = (q.1.cells q.2 ++ flatG l).take (0 * 5) ++ p.1.cells p.2 ++ (q.1.cells q.2 ++ flatG l).drop (0 * 5 + 5);rw [Nat.zero_mul, List.take_zero, List.nil_append, Nat.zero_add, List.drop_append_of_le_length (by rw [GeoT.cells_len]; omega), List.drop_of_length_le (by rw [GeoT.cells_len]; omega), List.nil_append]
 | q :: l, i + 1, p, h => by
  have ih := flatG_set (l := l) (i := i) (p := p) (by simpa using h);show q.1.cells q.2 ++ flatG (l.set i p) = (q.1.cells q.2 ++ flatG l).take ((i + 1) * 5) ++ p.1.cells p.2 ++ (q.1.cells q.2 ++ flatG l).drop ((i + 1) * 5 + 5);have e1 : (q.1.cells q.2).take ((i + 1) * 5) = q.1.cells q.2 := List.take_of_length_le (by rw [GeoT.cells_len]; omega);have e2 : (q.1.cells q.2).drop ((i + 1) * 5 + 5) = [] := List.drop_of_length_le (by rw [GeoT.cells_len]; omega);rw [ih, List.take_append, e1, List.drop_append, e2, GeoT.cells_len, List.nil_append, show (i + 1) * 5 - 5 = i * 5 by omega, show (i + 1) * 5 + 5 - 5 = i * 5 + 5 by omega];simp only [List.append_assoc]
theorem mix_set {α : Type} {A G : List α} {i : Nat} {g : α} (hA : i ≤ A.length) (hG : i < G.length) : (A.take i ++ G.drop i).set i g = (A.take i ++ [g]) ++ G.drop (i + 1) := by
 have e : (A.take i).length = i := by rw [List.length_take]; omega
 rw [List.set_append, if_neg Om, e, Nat.sub_self, List.drop_eq_getElem_cons hG, List.append_assoc]; rfl
theorem line_fn {spec : CallF} (hs : SpecLay spec) {h : H} {n0 wb mb pf po bb bo fr n : Nat} {X : Nat → Prop} {B : BoxT} {f : Frm} {its : S} {L : List Itm} (ok : Ok h) (k : Fr h n0 wb mb (Own X .sl0 .sl0 po) pf B bb bo f) (hX : ∀ q, X q → q < h.next) (hL : ∀ C ∈ B.kids, LayFn spec C) (hfr : fr + n ≤ B.kids.length) (hn64 : n ≤ 64) (hit : ItemsAt h its L) (hib : S.blk its ≠ some po) (hl : L.length = n) (hlo : ∀ x ∈ L, x.ok) (hpo : wb < po ∧ po < h.next ∧ po ≠ pf) (co : Cells h po 115 [.i .i64 (fr : Int), its, .sl0, .sl0, .i .i64 0]) (mo : h.may po = true) :
  WF Try.prog spec 72 [.one (.p wb 0), .one (.p pf 0), .one (.p po 0)] h fun r h1 => ∃ x xs ys ro l, r = .one x ∧ l.map Prod.fst = (lnI B.vals f (((B.kids.drop fr).take n).map kidOf) L fr n).gs ∧ (xs, (lnI B.vals f (((B.kids.drop fr).take n).map kidOf) L fr n).x) ∈ ro ∧ (∀ q, S.blk xs = some q → h.next ≤ q) ∧
   HgtS h h1 n0 wb mb X pf po bb bo B f x ys ro l (lnI B.vals f (((B.kids.drop fr).take n).map kidOf) L fr n).y 115 [.i .i64 (fr : Int), its, xs, ys, .i .i64 (lnI B.vals f (((B.kids.drop fr).take n).map kidOf) L fr n).cross] := by
 have hkl := k.box.kidsS.1;have hlt := k.lt;have bv := k.box.own;have hbb := bv.val.lt;have mlt := k.map.lt;have gv := bv.vok.bd 14 Om;have hgap : 0 ≤ vAt B.vals 14 ∧ vAt B.vals 14 ≤ 1099511627776 := ⟨gv.1, by have : vAt B.vals 14 ≤ 1073741824 := gv.2; omega⟩;have lok : LineOk L (vAt B.vals 14) f.inner := ⟨hlo, by omega, hgap, k.inner⟩;have hsl : (solveI prtI L (vAt B.vals 14) f.inner).length = n := by rw [solve_length]; exact hl
 have hsn : ∀ s ∈ solveI prtI L (vAt B.vals 14) f.inner, NN s := solve_nn hlo
 have c0 : HgtS h h n0 wb mb X pf po bb bo B f .sl0 .sl0 [] [] [] 115 [.i .i64 (fr : Int), its, .sl0, .sl0, .i .i64 0] :=
  ⟨k, hX, (fun p hp => by cases hp), co, .inr mo, ⟨hpo.1, hpo.2.1⟩, (fun p hp => by cases hp), (fun p hp => by cases hp), hlt.2, .nil, .nil, (fun q hq => by cases hq), .refl _ _, ok, .nil, (fun q hq => by cases hq), (fun q hq => by cases hq)⟩
 refine WF_of Try.func72 rfl (hs.s _ _ _) (by rw [Try.ntmps72]; simp) (by rw [Try.ntmps72]; decide) ?_;rw [Try.ntmps72, Try.results72];simp only [Sl.setMany_cons, Sl.setMany_nil, Nat.zero_add, Nat.reduceAdd];have cf := k.cf;unfold Frm.cells at cf
 (repeat refine zS ?_); refine zR ?_
 refine VO ?_;refine zN ?_; (repeat refine zS ?_);refine zR ?_
 iterate 3 (refine VO ?_)
 (refine VX (Gd1 @cf.row) ?_)
 refine WO_fn (ee) (by simp) Dc ((v_fn hs bv.val (i := 14) (bv.vok.at Om).1).mono ?_);rintro _ h ⟨rfl, rfl⟩;refine VO ?_;refine zN ?_; (repeat refine zS ?_);refine W_drawn dr72_2 (by kernel_rfl) ok.floor ?_;unfold dr72_2
 iterate 9 (first | (refine IL rfl zF Gs0 (Gd2 @cf.row @co.row) ?_) | (refine zO rfl ?_))
 refine CG rfl (ee) ok (solve_fn hs.flex (parts_ok hs.sort) (ok.fenced (fun b hb => OffA) (fun b hb => OffA) ok.floor) lok (hit.fenced fun b hb => by have := hit.lt hb; (try simp only [cond_true, cond_false]); repeat (first | exact Off.nil | refine Off.seen rfl ?_ | refine Off.off Om ?_))) fun s h2 g2 u2 o2 hn2 => ?_;have u2 : Up (· < h.next) h h2 := u2;have c2 := c0.upLt u2 o2;have bv2 := c2.fr.box.own;have cf2 := c2.fr.cf;have co2 := c2.co;unfold Frm.cells at cf2
 (refine zO rfl ?_)
 refine WI_nil ?_; (repeat refine zS ?_);refine W_drawn dr72_3 (by kernel_rfl) o2.floor ?_;unfold dr72_3
 iterate 11 (first | (refine IL rfl zF Gs0 (Gd1 @cf2.row) ?_) | (refine zO rfl ?_))
 refine CP rfl (ee) (v_fn hs (bv2.val.fenced fun q hq => OffA) (i := 15) (bv2.vok.at Om).1) ?_;refine CG rfl (ee) o2 (spreadL_fn hs (o2.fenced (fun b hb => OffA) (fun b hb => OffA) o2.floor) (g2.ints.fenced fun b hb => by have := (g2.lt hb).2; (try simp only [cond_true, cond_false]); repeat (first | exact Off.nil | refine Off.seen rfl ?_ | refine Off.off Om ?_)) Om (fun z hz => (hsn z hz).co) (co_nn hgap) k.inner.co) fun xs h3 g3 u3 o3 hn3 => ?_;have u3 : Up (· < h2.next) h2 h3 := u3;have c3 := c2.upLt u3 o3;have hxb : ∀ q, S.blk xs = some q → h2.next ≤ q ∧ q < h3.next := fun q hq => g3.lt hq
 have hsb : ∀ q, S.blk s = some q → h.next ≤ q ∧ q < h2.next := fun q hq => g2.lt hq
 iterate 2 (refine zO rfl ?_)
 refine WI_store1 rfl (ee) (ee) sz26 c3.co (c3.mo.resolve_left hpo.2.2) (by simp) OffA OffA (H.may_iff (c3.mo.resolve_left hpo.2.2)).1.1 fun h4 p4 => ?_;have c4 := c3.put hpo.2.2 p4;have e4 := p4.next;generalize hXS : spreadL (solveI prtI L (vAt B.vals 14) f.inner) (vAt B.vals 14) f.inner (vAt B.vals 15) = XS at *;generalize hSZ : solveI prtI L (vAt B.vals 14) f.inner = SZ at *;have hi4 : IntsIn h4 (wb + 1) s SZ := ((g2.intsIn (m := wb + 1) Om).upB u3 (fun q hq => (hsb q hq).2)).upB p4.up fun q hq => by have := hsb q hq; omega
 have hx4 : IntsIn h4 (wb + 1) xs XS := (g3.intsIn (m := wb + 1) Om).upB p4.up fun q hq => by have := hxb q hq; omega
 refine WI_nil ?_; (repeat refine zS ?_);refine zR ?_
 iterate 4 (refine VO ?_)
 refine WO_fn (ee) (by simp) Dc ((heights_fn hs c4.ok c4.fr (fun q hq => by have := hX q hq; omega) hL hfr hn64 hsl hsn hi4 Om (fun e => by have := hsb _ e; omega) c4.co (c4.mo.resolve_left hpo.2.2)).mono ?_);rintro _ h5 ⟨x, y, l, rfl, hlm, c5⟩
 iterate 5 (refine VO ?_)
 refine zN ?_; (repeat refine zS ?_);have hHl : (lnHs f (((B.kids.drop fr).take n).map kidOf) SZ).length = n := by unfold lnHs; simp; omega
 have hGl : (lnG0 f (((B.kids.drop fr).take n).map kidOf) SZ).length = n := by unfold lnG0; simp; omega
 have hGGl : ∀ c, (lnG B.vals f (((B.kids.drop fr).take n).map kidOf) SZ c).length = n := fun c => by unfold lnG; simp; omega
 have hHn : ∀ z ∈ lnHs f (((B.kids.drop fr).take n).map kidOf) SZ, CO z := fun z hz => by
  unfold lnHs at hz;obtain ⟨a, _, b, _, rfl⟩ := zip_mem hz;exact outI_co _ _
 have hfold : ∀ (l : List Int) (a : Int), CO a → (∀ z ∈ l, CO z) → CO (l.foldl max a) := by
  intro l
  induction l with
  | nil => intro a ha _; exact ha
  | cons z l ih => intro a ha hz; exact ih _ (by have := hz z (by simp); unfold CO at *; omega) fun w hw => hz w (by simp [hw])
 have hCR : CO (lnCross B.vals f (lnHs f (((B.kids.drop fr).take n).map kidOf) SZ)) := by
  unfold lnCross; split
  ·exact k.tall.co
  ·exact hfold _ _ (by unfold CO; omega) hHn
 have hLn : lnI B.vals f (((B.kids.drop fr).take n).map kidOf) L fr n = ⟨fr, n, XS, lnY B.vals (lnHs f (((B.kids.drop fr).take n).map kidOf) SZ) (lnCross B.vals f (lnHs f (((B.kids.drop fr).take n).map kidOf) SZ)), lnCross B.vals f (lnHs f (((B.kids.drop fr).take n).map kidOf) SZ), lnG B.vals f (((B.kids.drop fr).take n).map kidOf) SZ (lnCross B.vals f (lnHs f (((B.kids.drop fr).take n).map kidOf) SZ))⟩ := by
  subst hXS; subst hSZ; rfl
 rw [hLn];simp only;have hxb5 : ∀ q, S.blk x = some q → h4.next ≤ q := fun q hq => (c5.gx.grown.lt hq).1
 have c6 := ((c5.rebase c4.up hX hpo.2.1 hlt.2).dropY).addRo (v := xs) (m := XS) (hx4.upB c5.up fun q hq => by have := hxb q hq; omega) (fun e => by have := hxb _ e; omega) (fun q hq => ⟨fun e => by have := hxb _ hq; have := hxb5 _ e; omega, fun e => by cases e⟩);generalize hHS : lnHs f (((B.kids.drop fr).take n).map kidOf) SZ = HS at *;generalize lnCross B.vals f HS = CR at *;have hll : l.length = n := by have := congrArg List.length hlm; rw [List.length_map, hGl] at this; exact this
 clear c5 c4 c3 c2 c0 hi4 hx4;refine zR ?_;refine VO ?_;refine zV (c6.gx.len (ee)) Dc ?_;refine VO ?_;rw [hll];refine zN ?_; (repeat refine zS ?_)
 refine zK (W_rounds (fun j T h1 => ∃ i ys l, j = n - i ∧ i ≤ n ∧ T.get 0 = some (.one (.p wb 0)) ∧ T.get 1 = some (.one (.p pf 0)) ∧ T.get 2 = some (.one (.p po 0)) ∧ T.get 8 = some (.one s) ∧ T.get 9 = some (.one x) ∧ T.get 10 = some (.one y) ∧ T.get 53 = some (.one (.i .i64 (n : Int))) ∧ T.get 54 = some (.one (.i .i64 (i : Int))) ∧ l.length = n ∧ l.map Prod.fst = (lnG B.vals f (((B.kids.drop fr).take n).map kidOf) SZ CR).take i ++ (lnG0 f (((B.kids.drop fr).take n).map kidOf) SZ).drop i ∧
  HgtS h h1 n0 wb mb X pf po bb bo B f x ys (([(s, SZ)] ++ [(y, HS)]) ++ [(xs, XS)]) l ((lnY B.vals HS CR).take i) 115 [.i .i64 (fr : Int), its, xs, ys, .i .i64 CR]) ?_ n _ _ ?_)
 rotate_left
 ·exact ⟨0, .sl0, l, rfl, Nat.zero_le _, gs, gs, gs, gs, gs, gs, gs, gs, hll, by simpa using hlm, c6⟩
 clear c6 hlm hll;rintro j T h1 ⟨i, ys, l, rfl, hin, t0, t1, t2, t8, t9, t10, t53, t54, hll, hl2, c1⟩
 (repeat refine zS ?_); refine zR ?_
 (refine VX (zB (Gs2 @t53 @t54) (Gs2 @t53 @t54) zL) ?_)
 refine zN ?_; (repeat refine zS ?_);refine zC (ee) (fun hlt => W_skip ?_) (fun hge => W_exit ?_)
 ·have hi' : (i : Int) < (n : Int) := by simpa using hlt
  have hi' : i < n := by omega
  obtain ⟨C, hC⟩ : ∃ C, B.kids[fr + i]? = some C := ⟨_, List.getElem?_eq_getElem Om⟩;obtain ⟨sz, hS⟩ : ∃ sz, SZ[i]? = some sz := ⟨_, List.getElem?_eq_getElem Om⟩;obtain ⟨hv, hH⟩ : ∃ hv, HS[i]? = some hv := ⟨_, List.getElem?_eq_getElem Om⟩;have hLC := hL C (List.mem_of_getElem? hC);have hszn := hsn sz (List.mem_of_getElem? hS);have hvn := hHn hv (List.mem_of_getElem? hH);have hzG := zipK (fn := fun k s => if stretchI B.vals k.vals CR ≠ -1 then k.lay f.inner (withinI s (vAt k.vals 12)) (stretchI B.vals k.vals CR) else k.lay f.inner (withinI s (vAt k.vals 12)) (-1)) hC hi' hS;change (lnG _ _ _ _ _).take _ = (lnG _ _ _ _ _).take _ ++ _ at hzG;rw [kidOf_vals] at hzG;change _ = _ ++ [if stretchI B.vals C.vals CR ≠ -1 then layI C f.inner (withinI sz (vAt C.vals 12)) (stretchI B.vals C.vals CR) else layI C f.inner (withinI sz (vAt C.vals 12)) (-1)] at hzG;have hzY : (lnY B.vals HS CR).take (i + 1) = (lnY B.vals HS CR).take i ++ [(acrossI hv CR (vAt B.vals 16)).1] := by unfold lnY; exact map_take hH
  have hG0i : (lnG0 f (((B.kids.drop fr).take n).map kidOf) SZ)[i]? = some (layI C f.inner (withinI sz (vAt C.vals 12)) (-1)) := by
   have h1 : ((((B.kids.drop fr).take n).map kidOf))[i]? = some (kidOf C) := by rw [List.getElem?_map, List.getElem?_take, if_pos hi', List.getElem?_drop, hC]; rfl
   unfold lnG0;rw [List.getElem?_zipWith, h1, hS];show some ((kidOf C).lay _ (withinI sz (vAt (kidOf C).vals 12)) _) = _;rw [kidOf_vals]; rfl
  have hYl : (lnY B.vals HS CR).length = n := by unfold lnY; rw [List.length_map]; omega
  have hGG := hGGl CR;obtain ⟨kb, ko, kc, kx, hbk0, hkb, hbC0⟩ := k.box.kid hC;have low : ∀ q, q < n0 → q < h.next ∧ q ≠ mb ∧ q ≠ po := fun q hq => by omega
  have hbk : h1.row bb (bo + 3) 1 = some [.sl kb ko B.kids.length kc 4 kx] := by rw [c1.up.row (low bb hbb)]; exact hbk0
  have hCv := hbC0.own.vok;have hCm := (hCv.at (i := 12) Om).2.2.2;generalize lnG B.vals f (((B.kids.drop fr).take n).map kidOf) SZ CR = GG at *;generalize lnG0 f (((B.kids.drop fr).take n).map kidOf) SZ = G0 at *;generalize lnY B.vals HS CR = YS at *;generalize hSt : stretchI B.vals C.vals CR = st at *
  have rd : ∀ {v : S} {m : List Int} {z : Int}, (v, m) ∈ ([(s, SZ)] ++ [(y, HS)]) ++ [(xs, XS)] → m[i]? = some z → ∃ b c ex, v = .sl b 0 m.length c 1 ex ∧ b < h1.next ∧ h1.row b i 1 = some [.i .i64 z] := fun {v m z} hm hz => by
   rcases c1.iv (v, m) hm with ⟨q, _⟩ | ⟨b, c, ex, q, _, q2, q3⟩
   ·simp only at q; rw [q] at hz; simp at hz
   ·exact ⟨b, c, ex, q, q2, q3 i z hz⟩
  obtain ⟨sb, sc, sx, hsv, hsbl, hsr⟩ := rd (v := s) (m := SZ) (by simp) hS;obtain ⟨yb, yc, yx, hyv, hybl, hyr⟩ := rd (v := y) (m := HS) (by simp) hH;rw [hsv] at t8;rw [hyv] at t10;have cf1 := c1.fr.cf;have co1 := c1.co;have plt := c1.fr.lt;have mlt1 := c1.fr.map.lt;have hn1 := c1.up.next;have bv1 := c1.fr.box.own;unfold Frm.cells at cf1
  repeat refine zS ?_
  refine W_cut (fun T2 h2 => ∃ ys2 l2, T2.get 0 = some (.one (.p wb 0)) ∧ T2.get 1 = some (.one (.p pf 0)) ∧ T2.get 2 = some (.one (.p po 0)) ∧ T2.get 8 = some (.one s) ∧ T2.get 9 = some (.one x) ∧ T2.get 10 = some (.one y) ∧ T2.get 53 = some (.one (.i .i64 (n : Int))) ∧ T2.get 54 = some (.one (.i .i64 (i : Int))) ∧ l2.length = n ∧ l2.map Prod.fst = GG.take (i + 1) ++ G0.drop (i + 1) ∧
   HgtS h h2 n0 wb mb X pf po bb bo B f x ys2 (([(s, SZ)] ++ [(y, HS)]) ++ [(xs, XS)]) l2 (YS.take (i + 1)) 115 [.i .i64 (fr : Int), its, xs, ys2, .i .i64 CR]) ?_ ?_
  ·refine zK ?_
   (repeat refine zS ?_); refine zR ?_
   iterate 2 (refine VX (Ga1 @t54) ?_)
   refine zN ?_; (repeat refine zS ?_);refine W_drawn dr72_8 (by kernel_rfl) c1.ok.floor ?_;unfold dr72_8
   iterate 15 (first | (refine IX rfl (zB (by simp only [go_sem, ↓reduceIte, Nat.reduceEqDiff, t1, t2, natAdd]; rfl) (by simp only [go_sem, ↓reduceIte, Nat.reduceEqDiff, t1, t2, natAdd]; rfl) zA) ?_; (try rw [zI Om Om])) | (refine IL rfl zF (by simp only [go_sem, ↓reduceIte, Nat.reduceEqDiff, t1, t2, natAdd]; rfl) (Gd3 @cf1.row @hbk @co1.row) ?_) | (refine IX rfl (by simp (disch := first | omega | simp) only [go_sem, ↓reduceIte, Nat.reduceEqDiff, Nat.reduceAdd, t1, t2, natAdd]; rfl) ?_) | (refine IX rfl (by simp only [go_sem, ↓reduceIte, Nat.reduceEqDiff, Nat.reduceAdd, t1, t2, natAdd]; rfl) ?_))
   refine WI_nil ?_; (repeat refine zS ?_);refine W_drawn dr72_9 (by kernel_rfl) c1.ok.floor ?_;unfold dr72_9
   iterate 17 (first | (refine IL rfl zF (Gs3 @t1 @t2 @t10) (Gd3 @cf1.row @co1.row @hyr) ?_) | (refine IX rfl (Gd3 @t1 @t2 @t10) ?_) | (refine IX rfl (Ga3 @t1 @t2 @t10) ?_))
   refine CP rfl (ee) (v_fn hs (bv1.val.fenced fun q hq => OffA) (i := 16) (bv1.vok.at Om).1) ?_;refine CV rfl (ee) c1.ok (across_fn hs (c1.ok.fenced (fun b hb => OffA) (fun b hb => OffA) c1.ok.floor) hvn hCR) fun h2 u2 o2 hn2 => ?_;have u2 : Up (· < h1.next) h1 h2 := u2;have c2 := c1.upLt u2 o2
   (refine IX rfl (Gd1 @FO121_0) ?_)
   refine WI_bs1 rfl el26 ⟨_, ze26⟩ (ee) o2 Dc fun h3 n3 => ?_;have e3 := n3.next;have c3 := c2.upLt n3.up n3.ok;have hn3 := c3.up.next
   refine WI_app (n0 := h.next) rfl ap26_26 (ee) (ee) n3.cells OffA rfl c3.gy (fun b hb => by
    have := c1.gy.lt hb;refine ⟨OffA, OffA, ?_⟩;show h3.floor ≤ b;have q1 := c3.up.floor; have q4 := ok.floor
    omega) n3.ok (n3.ok.fenced (fun b hb => OffA) (fun b hb => OffA) n3.ok.floor) hn3 (mm := i) (by rw [nums_length, List.length_take]; omega) Om Om Dc fun ys4 h4 w4 => ?_
   have e4 := w4.next;have c4 := c3.moreY w4;rw [← hzY] at c4
   iterate 2 (refine zO rfl ?_)
   refine WI_store1 rfl (ee) (ee) sz26 c4.co (c4.mo.resolve_left hpo.2.2) (by simp) OffA OffA (H.may_iff (c4.mo.resolve_left hpo.2.2)).1.1 fun h5 p5 => ?_;have c5 := c4.put hpo.2.2 p5;change HgtS h h5 n0 wb mb X pf po bb bo B f x ys4 _ l (YS.take (i + 1)) 115 [.i .i64 (fr : Int), its, xs, ys4, .i .i64 CR] at c5;have e5 := p5.next;have co5 := c5.co;have cf5 := c5.fr.cf;have plt5 := c5.fr.lt;have rf5 : h5.row pf 0 1 = some [.p bb bo] := by unfold Frm.cells at cf5; exact cf5.at1 rfl
   have hn5 := c5.up.next;refine WI_nil ?_; (repeat refine zS ?_);refine zR ?_
   iterate 5 (refine VX (Ga2 @t1 @t2) ?_)
   (refine VX (Gd3 @co5.row @t1 @t2) ?_)
   refine WO_fn (ee) (by simp) Dc ((stretch_fn hs c5.ok Om plt5.2 rf5 c5.fr.box.own.val bv.vok (hbC0.own.val.up c5.up low) hCv hCR).mono ?_);rintro _ h6 ⟨rfl, u6, o6⟩;have e6 := u6.next;have c6 := c5.upLt u6 o6;rw [hSt];refine VO ?_;refine zN ?_; (repeat refine zS ?_);refine zR ?_;refine VO ?_
   (refine VX (zB ee ee in_neq) ?_)
   refine zN ?_; (repeat refine zS ?_);clear c2 c3 c4 c5 u2 u6 cf5 co5 rf5 p5 w4 n3 o2;refine zC (ee) (fun hc => ?_) (fun hc => W_skip ?_)
   ·have hc : st ≠ -1 := by simpa using hc
    rw [if_pos hc] at hzG;have cf6 := c6.fr.cf;have plt6 := c6.fr.lt;have mlt6 := c6.fr.map.lt;have hn6 := c6.up.next;have hxn := c6.gx.grown
    have hst : -1 ≤ st ∧ st ≤ 1099511627776 := by
     rw [← hSt]; unfold stretchI;split
     ·omega
     ·have := highI_nn hCv (x := withinI CR (vAt C.vals 12)) (withinI_nn _ _).2; omega
    obtain ⟨xb, rfl, hxc, hxm⟩ : ∃ xb, x = .sl xb 0 n n 5 false ∧ Cells h6 xb 37 (flatG l) ∧ h6.may xb = true := by
     rcases hxn with ⟨e, _⟩ | ⟨q, m, rfl, _, e2, e3, e4, _, _⟩
     ·have := congrArg List.length e; rw [flatG_len] at this; simp at this; omega
     ·have : m = n := by rw [flatG_len] at e2; omega
      subst this; exact ⟨q, rfl, e3, e4⟩
    have hxb := c6.gx.grown.lt (q := xb) rfl
    have rs6 : h6.row sb i 1 = some [.i .i64 sz] := by
     rcases c6.iv (s, SZ) (by simp) with ⟨q, _⟩ | ⟨b, c, ex, q, _, q2, q3⟩
     ·simp only at q; rw [q] at hS; simp at hS
     ·simp only at q; rw [hsv] at q; cases q; exact q3 i sz hS
    have hbC6 : BoxAt h6 n0 C kb (ko + (fr + i) * 4) := hbC0.mono fun q x hq hx => by rw [c6.up.get (low q hq)]; exact hx
    unfold Frm.cells at cf6;refine W_drawn dr72_12 (by kernel_rfl) c6.ok.floor ?_;unfold dr72_12
    iterate 14 (first | (refine IL rfl zF (Gs4 @t0 @t1 @t8 @t9) (Gd2 @cf6.row @rs6) ?_) | (refine IX rfl (Gd4 @t0 @t1 @t8 @t9) ?_) | (refine IX rfl (Ga4 @t0 @t1 @t8 @t9) ?_))
    refine CP rfl (ee) (v_fn hs (hbC6.own.val.fenced fun q hq => OffA) (i := 12) (hCv.at Om).1) ?_;refine CV rfl (ee) c6.ok (within2_fn hs (c6.ok.fenced (fun b hb => OffA) (fun b hb => OffA) c6.ok.floor) hszn.co hCm) fun h7 u7 o7 hn7 => ?_;have u7 : Up (· < h6.next) h6 h7 := u7;have c7 := c6.upLt u7 o7;refine WI_val (v := .agg [.p kb (ko + (fr + i) * 4), .i .i64 f.inner, .i .i64 (withinI sz (vAt C.vals 12)), .i .i64 st]) rfl zF rfl (by rw [ex_build]; exact bd_of (by kernel_rfl : placesOf Try.prog 75 = some [(0, 1), (1, 1), (2, 1), (3, 1)]) zb75 (by simp only [evParts, go_sem, ↓reduceIte, Nat.reduceEqDiff]; rfl) rfl) Dc ?_;have hq : QOk f.inner (withinI sz (vAt C.vals 12)) st := ⟨k.inner, by have := withinI_nn sz (vAt C.vals 12); omega, hst⟩;refine CLay (h0 := h6) (X := Own X (.sl xb 0 n n 5 false) ys4 po) rfl (Gt1 @t0) o7 (o7.fenced (fun b hb => OffA) (fun b hb => OffA) o7.floor) c6.fr.map (fun q hq => c7.own hq) u7 (fun q hq => OffA) OffA (H.may_iff c7.fr.map.may).1.1 hbC6 hq hLC fun ks h8 g8 u8 m8 o8 hn8 => ?_;have c8 := c7.lay u8 m8 o8;have hx8 := u8.cells (b := xb) ⟨by omega, by omega⟩ (u7.cells (show xb < h6.next by omega) hxc);have mx8 : h8.may xb = true := by rw [u8.may, u7.may]; exact hxm
    (refine IX rfl (Gd1 @t9) ?_)
    refine WI_storeA rfl (ee) (ee) sz37 (GeoT.cells_len _ _) (fun e => by have := congrArg List.length e; rw [GeoT.cells_len] at this; cases this) hx8 mx8 (by rw [GeoT.cells_len, flatG_len]; omega) OffA OffA (H.may_iff mx8).1.1 fun h9 p9 => ?_;rw [GeoT.cells_len] at p9;have p9 : Put h8 h9 xb 37 (flatG (l.set i (layI C f.inner (withinI sz (vAt C.vals 12)) st, ks))) := by rw [flatG_set Om]; exact p9
    have c9 := c8.setX rfl Om p9 (by rw [List.length_set]; exact hll) (fun p hp => by
     rcases List.mem_or_eq_of_mem_set hp with hp | hp
     ·exact c8.gx.kids p hp
     ·rw [hp]; exact g8)
    refine WI_nil ⟨by trivial, ys4, _, gt t0, gt t1, gt t2, (Gu2 @t8 @hsv), gt t9, (Gu2 @t10 @hyv), gt t53, gt t54, by rw [List.length_set]; exact hll, ?_, c9⟩;rw [List.map_set, hl2, hzG];exact mix_set Om Om
   ·have hc : ¬ st ≠ -1 := by simpa using hc
    rw [if_neg hc] at hzG;refine ⟨rfl, ys4, l, gt t0, gt t1, gt t2, (Gu2 @t8 @hsv), gt t9, (Gu2 @t10 @hyv), gt t53, gt t54, hll, ?_, c6⟩;obtain ⟨hg1, hg2⟩ := gEi.1 hG0i;rw [hl2, hzG, List.drop_eq_getElem_cons hg1, hg2, List.append_assoc]; rfl
  ·rintro T2 h2 ⟨ys2, l2, t0, t1, t2, t8, t9, t10, t53, t54, hll2, hl3, c2⟩;refine zR ?_
   (refine VX (zB (Gs1 @t54) (Gs1 @t54) zA) ?_; (try rw [zI Om Om]))
   (refine VX (Ga1 @t54) ?_)
   exact zN ⟨n - (i + 1), by omega, i + 1, ys2, l2, rfl, hi', gt t0, gt t1, gt t2, gt t8, gt t9, gt t10, gt t53, gs, hll2, hl3, c2⟩
 ·have hge2 : ¬ (i : Int) < (n : Int) := by simpa using hge
  obtain rfl : i = n := by omega
  refine ⟨fun _ => ?_, fun hne => absurd rfl hne⟩;have d1 := List.take_of_length_le (show (lnG B.vals f (((B.kids.drop fr).take i).map kidOf) SZ CR).length ≤ i by rw [hGGl]; exact Nat.le_refl _);have d2 := List.drop_of_length_le (show (lnG0 f (((B.kids.drop fr).take i).map kidOf) SZ).length ≤ i by rw [hGl]; exact Nat.le_refl _);rw [d1, d2, List.append_nil] at hl2;rw [List.take_of_length_le (by unfold lnY; rw [List.length_map]; omega)] at c1
  (repeat refine zS ?_); refine zR ?_
  iterate 2 (refine VX (Ga1 @t9) ?_)
  exact zN (W_ret ⟨.inr rfl, _, RbA, x, xs, ys, _, l, rfl, hl2, by simp, fun q hq => by have := hxb q hq; omega, c1⟩)
end Go.Ai
