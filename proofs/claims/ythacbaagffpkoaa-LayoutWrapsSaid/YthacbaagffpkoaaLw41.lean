/-
LayoutWraps, part 41 of 48: FxLayA FxLayG FxLayL.
-/
import Derived.Test.YthacbaagffpkoaaLw40
set_option linter.unusedVariables false
set_option linter.unusedSimpArgs false
set_option maxRecDepth 100000
set_option maxHeartbeats 0
namespace Go.Ai
open Go.Proofs
theorem kids_fn {spec : CallF} (hs : SpecLay spec) {h : H} {n0 wb mb pf bb bo : Nat} {X : Nat → Prop} {B : BoxT} {f : Frm} (ok : Ok h) (k : Fr h n0 wb mb (Own X .sl0 .sl0 pf) pf B bb bo f) (hX : ∀ q, X q → q < h.next) (hL : ∀ C ∈ B.kids, LayFn spec C) :
  WF Try.prog spec 46 [.one (.p wb 0), .one (.p pf 0)] h fun r h1 => ∃ x, r = .tup [(false, [x]), (false, [.i .i64 (kidsI B.vals f (B.kids.map kidOf)).2])] ∧ GeosAt h1 (Al wb X) (kidsI B.vals f (B.kids.map kidOf)).1 x ∧ Up (fun q => q < h.next ∧ q ≠ mb ∧ q ≠ pf) h h1 ∧ Fr h1 n0 wb mb X pf B bb bo f ∧ Ok h1 := by
 obtain ⟨hkl, kS, hks, hkS⟩ := k.box.kidsS;have bv := k.box.own;have cf := k.cf;unfold Frm.cells at cf;have hKl : (B.kids.map kidOf).length = B.kids.length := List.length_map ..;refine WF_of Try.func46 rfl (hs.s _ _ _) (by rw [Try.ntmps46]; simp) (by rw [Try.ntmps46]; decide) ?_;rw [Try.ntmps46, Try.results46];simp only [Sl.setMany_cons, Sl.setMany_nil, Nat.zero_add, Nat.reduceAdd]
 (repeat refine zS ?_); refine zR ?_
 iterate 2 (refine VO ?_)
 refine zN ?_;refine zS ?_;refine W_cutR (fun T h1 => h1 = h ∧ ¬ (vAt B.vals 0 ≠ 1 ∨ 64 < B.kids.length) ∧ vAt B.vals 1 ≠ 0 ∧ T.get 0 = some (.one (.p wb 0)) ∧ T.get 1 = some (.one (.p pf 0))) ?_ ?_
 ·refine zK ?_
  repeat refine zS ?_
  refine W_cut (fun T h1 => h1 = h ∧ T.get 0 = some (.one (.p wb 0)) ∧ T.get 1 = some (.one (.p pf 0)) ∧ T.get 6 = some (.one (.b (decide (vAt B.vals 0 ≠ 1 ∨ 64 < B.kids.length))))) ?_ ?_
  ·refine zR ?_
   iterate 3 (refine VO ?_)
   (refine VX (Gd1 @cf.row) ?_)
   refine WO_fn (ee) (by simp) Dc ((v_fn hs bv.val (i := 0) (bv.vok.at Om).1).mono ?_);rintro _ h ⟨rfl, rfl⟩
   by_cases h0 : vAt B.vals 0 = 1
   ·have h0d : decide (vAt B.vals 0 = 1) = true := decide_eq_true h0
    iterate 9 (first | (refine VX (zB (Gs2 @h0d @Bool.not_true) (Gs2 @h0d @Bool.not_true) in_neq) ?_) | (refine VN (zG rfl rfl (Gs2 @h0d @Bool.not_true) rfl) ?_) | (refine VG (zT rfl rfl (Gs2 @h0d @Bool.not_true) rfl) (Ga2 @h0d @Bool.not_true) ?_) | (refine VG (zT rfl rfl (Gs2 @h0d @Bool.not_true) rfl) (Gd4 @cf.row @hks @h0d @Bool.not_true) ?_) | (refine VX (Ga2 @h0d @Bool.not_true) ?_))
    refine VG (zT rfl rfl (Gs2 @h0d @Bool.not_true) rfl) (hkS.len (ee)) ?_
    iterate 3 (first | (refine VG (zT rfl rfl (Gs2 @h0d @Bool.not_true) rfl) (zB (Gs2 @h0d @Bool.not_true) (Gs2 @h0d @Bool.not_true) in_gtr) ?_) | (refine VN (zG rfl rfl (Gs2 @h0d @Bool.not_true) rfl) ?_) | (refine VX (Ga2 @h0d @Bool.not_true) ?_))
    refine zN ⟨rfl, rfl, gs, gs, ?_⟩;rw [show decide (vAt B.vals 0 ≠ 1 ∨ 64 < B.kids.length) = decide ((64 : Int) < (B.kids.length : Int)) by simp [h0]; omega];simp only [go_sem, ↓reduceIte, Nat.reduceEqDiff, h0d, Bool.not_true]
   ·have h0d : decide (vAt B.vals 0 = 1) = false := decide_eq_false h0
    iterate 9 (first | (refine VX (zB (Gs2 @h0d @Bool.not_false) (Gs2 @h0d @Bool.not_false) in_neq) ?_) | (refine VN (zG rfl rfl (Gs2 @h0d @Bool.not_false) rfl) ?_) | (refine VG (zT rfl rfl (Gs2 @h0d @Bool.not_false) rfl) (Ga2 @h0d @Bool.not_false) ?_) | (refine VG (zT rfl rfl (Gs2 @h0d @Bool.not_false) rfl) (Gd4 @cf.row @hks @h0d @Bool.not_false) ?_) | (refine VX (Ga2 @h0d @Bool.not_false) ?_))
    refine VN (zG rfl rfl (Gs2 @h0d @Bool.not_false) rfl) ?_
    iterate 3 (first | (refine VG (zT rfl rfl (Gs2 @h0d @Bool.not_false) rfl) (zB (Gs2 @h0d @Bool.not_false) (Gs2 @h0d @Bool.not_false) in_gtr) ?_) | (refine VN (zG rfl rfl (Gs2 @h0d @Bool.not_false) rfl) ?_) | (refine VX (Ga2 @h0d @Bool.not_false) ?_))
    refine zN ⟨rfl, rfl, gs, gs, ?_⟩;rw [show decide (vAt B.vals 0 ≠ 1 ∨ 64 < B.kids.length) = true by simp [h0]];simp only [go_sem, ↓reduceIte, Nat.reduceEqDiff, h0d, Bool.not_false]
  rintro T h1 ⟨rfl, t0, t1, t6⟩;refine zC (Gt1 @t6) (fun hc => ?_) (fun hc => ?_)
  ·have hc : vAt B.vals 0 ≠ 1 ∨ 64 < B.kids.length := of_decide_eq_true hc;have hK : kidsI B.vals f (B.kids.map kidOf) = blockI B.vals f.inner (B.kids.map kidOf) := by unfold kidsI; rw [hKl, if_pos hc]
   refine zS (zR ?_)
   iterate 2 (refine VX (Ga2 @t0 @t1) ?_)
   refine WO_fn (ee) (by simp) Dc ((block_fn hs ok k hX hL).mono ?_);rintro _ h2 ⟨x, rfl, g, u, fr, o⟩
   iterate 4 (refine VO ?_)
   refine zN (W_ret (.inr ⟨by simp, .inr rfl, _, RbA, x, ?_, ?_, u, fr, o⟩))
   ·rw [hK]
   ·rw [hK]; exact g
  ·have hc : ¬ (vAt B.vals 0 ≠ 1 ∨ 64 < B.kids.length) := of_decide_eq_false hc
   (repeat refine zS ?_); refine zR ?_
   iterate 3 (refine VX (Ga1 @t1) ?_)
   (refine VX (Gd2 @cf.row @t1) ?_)
   refine WO_fn (ee) (by simp) Dc ((v_fn hs bv.val (i := 1) (bv.vok.at Om).1).mono ?_);rintro _ h ⟨rfl, rfl⟩
   (refine VX (zB ee ee in_eql) ?_)
   refine VO ?_;refine zN ?_; (repeat refine zS ?_);refine zC (ee) (fun hc2 => ?_) (fun hc2 => W_skip ?_)
   ·have hc2 : vAt B.vals 1 = 0 := by simpa using hc2
    have hK : kidsI B.vals f (B.kids.map kidOf) = rowK B.vals f (B.kids.map kidOf) := by unfold kidsI; rw [hKl, if_neg hc, if_pos hc2]
    refine zS (zR ?_)
    iterate 2 (refine VX (Ga2 @t0 @t1) ?_)
    refine WO_fn (ee) (by simp) Dc ((row_fn2 hs ok k hX hL Om).mono ?_);rintro _ h2 ⟨x, rfl, g, u, fr, o⟩
    iterate 4 (refine VO ?_)
    refine zN (W_ret (.inr ⟨by simp, .inr rfl, _, RbA, x, ?_, ?_, u, fr, o⟩))
    ·rw [hK]
    ·rw [hK]; exact g
   ·have hc2 : vAt B.vals 1 ≠ 0 := by simpa using hc2
    exact .inl ⟨rfl, rfl, hc, hc2, gt t0, gt t1⟩
 rintro T h1 ⟨rfl, hc, hc2, t0, t1⟩;have hK : kidsI B.vals f (B.kids.map kidOf) = columnI B.vals f (B.kids.map kidOf) := by unfold kidsI; rw [hKl, if_neg hc, if_neg hc2]
 (repeat refine zS ?_); refine zR ?_
 iterate 2 (refine VX (Ga2 @t0 @t1) ?_)
 refine WO_fn (ee) (by simp) Dc ((column_fn hs ok k hX hL Om).mono ?_);rintro _ h2 ⟨x, rfl, g, u, fr, o⟩
 iterate 4 (refine VO ?_)
 refine zN (W_ret ⟨.inr rfl, _, RbA, x, ?_, ?_, u, fr, o⟩)
 ·rw [hK]
 ·rw [hK]; exact g
end Go.Ai
namespace Go.Ai
open Go.Proofs
section
variable {P : Program} {spec : CallF} {nt : Nat} {T : Sl} {h : H} {K : Sl → H → Prop} {ops : Array Oper} {rg ld : List (Nat × Nat × Nat)} {ix : List (Nat × Nat × Bool)} {i m : Nat} {bar : Bool} {ty : TypeId} {ps : String} {af : Array Edge} {d : Tmp}
theorem WI_look {t : TypeId} {x k : Operand} {ok : Bool} (ho : ops.toList[i]? = some ⟨some d, .lookup t x k ok, ty, ps, af, none⟩) {u kv v : V} (hx : ev T x = some u) (hv : ev T k = some kv) (he : doLookup P (h.fenced (unseen m rg) (cond bar (unseen m ld) []) (cond bar h.floor h.next)) t ok (some u) (some kv) = some (.val v (h.fenced (unseen m rg) (cond bar (unseen m ld) []) (cond bar h.floor h.next))))
  (hd : d < nt) (hk : WI P spec nt ops ix (T.set d v) h ((i, h.next, h.next) :: rg) ld K) : WI P spec nt ops ((i, m, bar) :: ix) T h rg ld K :=
 WI_loud ho rfl rfl (WX_val (by rw [ex_lookup, hx, hv]; exact he) ⟨_, putT_some hd, by rw [back_fenced]; exact hk⟩)
theorem WI_upd {t : TypeId} {x k y : Operand} (ho : ops.toList[i]? = some ⟨none, .mapUpdate t x k y, ty, ps, af, none⟩) {u kv v : V} {r : Nat} {o : O} (hx : ev T x = some u) (hv : ev T k = some kv) (hy : ev T y = some v) (he : doMapUpdate P (h.fenced (unseen m rg) (cond bar (unseen m ld) []) (cond bar h.floor h.next)) t (some u) (some kv) (some v) = some (.val (.tup []) ((h.fenced (unseen m rg) (cond bar (unseen m ld) []) (cond bar h.floor h.next)).put r o)))
  (hk : WI P spec nt ops ix T (h.put r o) ((i, h.next, h.next) :: rg) ld K) : WI P spec nt ops ((i, m, bar) :: ix) T h rg ld K :=
 WI_loud ho rfl rfl (WX_val (by rw [ex_mapUpdate, hx, hv, hy]; exact he) ⟨_, putT_none, by rw [back_put, back_fenced]; exact hk⟩)
end
noncomputable def fs75 : List Field := match keyB Try.prog 75 with
 | some (some l) => l
 | _ => []
theorem kb75 : keyB Try.prog 75 = some (some fs75) := by kernel_rfl
theorem fs75_t : fs75.map Field.type = [68, 3, 3, 3] := by kernel_rfl
theorem sizeB31 : sizeB Try.prog 31 = some 4 := by kernel_rfl
theorem und68 : Try.prog.underlying 68 = some (.pointer 31) := by kernel_rfl
theorem und70 : Try.prog.underlying 70 = some (.map 75 37) := by kernel_rfl
theorem eqC3 {h : H} {a b : Int} : eqCell Try.prog h 3 (.i .i64 a) (.i .i64 b) = some (decide (a = b)) := by
 unfold eqCell;rw [show Try.prog.underlying 3 = some (.int .i64) from Try.underlying3];show cond (IntKind.i64 == IntKind.i64) (some (eqI a b)) none = _;rw [eqI_eq]; rfl
theorem eqC68 {h : H} {b o b' o' : Nat} (k : Pk h b) (k' : Pk h b') : eqCell Try.prog h 68 (.p b o) (.p b' o') = some (decide (b = b' ∧ o = o')) := by
 unfold eqCell;rw [und68];simp only;rw [sizeB31];exact samePtr_of k k'
theorem four {α β : Type} {g : α → β} {l : List α} {a b c d : β} (h : l.map g = [a, b, c, d]) : ∃ x y z u, l = [x, y, z, u] ∧ g x = a ∧ g y = b ∧ g z = c ∧ g u = d := by
 rcases l with _ | ⟨x, _ | ⟨y, _ | ⟨z, _ | ⟨u, _ | ⟨v, t⟩⟩⟩⟩⟩ <;> simp at h;exact ⟨x, y, z, u, rfl, h.1, h.2.1, h.2.2.1, h.2.2.2⟩
theorem key_eq {h : H} {b o b' o' : Nat} {a w hh a' w' hh' : Int} (k : Pk h b) (k' : Pk h b') : eqKey Try.prog h 75 (keyB Try.prog 75) (.agg [.p b o, .i .i64 a, .i .i64 w, .i .i64 hh]) (.agg [.p b' o', .i .i64 a', .i .i64 w', .i .i64 hh']) = some (decide (b = b' ∧ o = o' ∧ a = a' ∧ w = w' ∧ hh = hh')) := by
 rw [kb75];have ht := fs75_t;generalize fs75 = l at ht;show eqFieldsB Try.prog h l _ _ = _;obtain ⟨f0, f1, f2, f3, rfl, e0, e1, e2, e3⟩ := four ht;simp only [eqFieldsB, e0, e1, e2, e3, eqC3, eqC68 k k']
 by_cases h1 : b = b' ∧ o = o'
 ·obtain ⟨rfl, rfl⟩ := h1
  by_cases h2 : a = a'
  ·subst h2
   by_cases h3 : w = w'
   ·subst h3
    by_cases h4 : hh = hh'
    ·subst h4; simp
    ·simp [h4]
   ·simp [h3]
  ·simp [h2]
 ·rw [decide_eq_false h1, decide_eq_false (p := b = b' ∧ o = o' ∧ a = a' ∧ w = w' ∧ hh = hh') fun e => h1 ⟨e.1, e.2.1⟩]
def EsOk (h : H) (n0 wb : Nat) (X : Nat → Prop) (es : List (V × V)) : Prop := ∀ e ∈ es, ∃ B b o a w hh ks, e = (.agg [.p b o, .i .i64 a, .i .i64 w, .i .i64 hh], .agg ((layI B a w hh).cells ks)) ∧ BoxAt h n0 B b o ∧ GeosAt h (Al wb X) (layI B a w hh).kids ks
section
variable {h : H} {n0 wb : Nat} {X : Nat → Prop} {B : BoxT} {b o : Nat} {a w hh : Int}
theorem find_ok (bx : BoxAt h n0 B b o) : ∀ {es : List (V × V)}, EsOk h n0 wb X es → ∃ r, findB Try.prog h 75 (keyB Try.prog 75) (.agg [.p b o, .i .i64 a, .i .i64 w, .i .i64 hh]) es = some r ∧ (r = none ∨ ∃ ks, r = some (.agg ((layI B a w hh).cells ks)) ∧ GeosAt h (Al wb X) (layI B a w hh).kids ks)
 | [], _ => ⟨none, rfl, .inl rfl⟩
 | e :: es, he => by
  obtain ⟨B', b', o', a', w', hh', ks, rfl, e2, e3⟩ := he e (by simp);unfold findB;rw [key_eq bx.own.pk e2.own.pk]
  by_cases hc : b = b' ∧ o = o' ∧ a = a' ∧ w = w' ∧ hh = hh'
  ·obtain ⟨rfl, rfl, rfl, rfl, rfl⟩ := hc;have := bx.same e2;subst this;rw [decide_eq_true (by simp)];exact ⟨_, rfl, .inr ⟨ks, rfl, e3⟩⟩
  ·rw [decide_eq_false hc];exact find_ok bx fun e h1 => he e (by simp [h1])
theorem swap_ok (bx : BoxAt h n0 B b o) {ks : S} (g : GeosAt h (Al wb X) (layI B a w hh).kids ks) : ∀ {es : List (V × V)}, EsOk h n0 wb X es → ∀ {v : V}, findB Try.prog h 75 (keyB Try.prog 75) (.agg [.p b o, .i .i64 a, .i .i64 w, .i .i64 hh]) es = some (some v) → ∃ l, swapB Try.prog h 75 (keyB Try.prog 75) (.agg [.p b o, .i .i64 a, .i .i64 w, .i .i64 hh]) (.agg ((layI B a w hh).cells ks)) es = some l ∧ EsOk h n0 wb X l
 | [], _, v, hf => by simp [findB] at hf
 | e :: es, he, v, hf => by
  obtain ⟨B', b', o', a', w', hh', ks', rfl, e2, e3⟩ := he e (by simp);unfold findB at hf;unfold swapB;rw [key_eq bx.own.pk e2.own.pk] at hf ⊢
  by_cases hc : b = b' ∧ o = o' ∧ a = a' ∧ w = w' ∧ hh = hh'
  ·obtain ⟨rfl, rfl, rfl, rfl, rfl⟩ := hc;rw [decide_eq_true (by simp)];simp only
   have hs : sameV (.agg [.p b o, .i .i64 a, .i .i64 w, .i .i64 hh]) (.agg [.p b o, .i .i64 a, .i .i64 w, .i .i64 hh]) = true := by
    simp [sameV, sameCs, sameC, eqI_eq]
   rw [hs, cond_true];refine ⟨_, rfl, fun e h1 => ?_⟩;rcases List.mem_cons.1 h1 with rfl | h1
   ·exact ⟨B, b, o, a, w, hh, ks, rfl, bx, g⟩
   ·exact he e (by simp [h1])
  ·rw [decide_eq_false hc] at hf ⊢;simp only at hf ⊢;obtain ⟨l, h1, h2⟩ := swap_ok bx g (fun e h1 => he e (by simp [h1])) hf;rw [h1];refine ⟨_, rfl, fun e h3 => ?_⟩;rcases List.mem_cons.1 h3 with rfl | h3
   ·exact ⟨B', b', o', a', w', hh', ks', rfl, e2, e3⟩
   ·exact h2 e h3
theorem keyOk75 {xs : List S} (hl : xs.length = 4) : keyOk (keyB Try.prog 75) (.agg xs) = true := by
 rw [kb75];have ht := congrArg List.length fs75_t;rw [List.length_map] at ht;show Nat.beq xs.length fs75.length = true;rw [hl, ht]; rfl
theorem look_ok {mb : Nat} (k : MapOk h n0 wb mb X) (bx : BoxAt h n0 B b o) : ∃ xs t, doLookup Try.prog h 70 true (some (.one (.m mb))) (some (.agg [.p b o, .i .i64 a, .i .i64 w, .i .i64 hh])) = some (.val (.tup [(true, xs), (false, [.b t])]) h) ∧ xs.length = 5 ∧ (t = true → ∃ ks, xs = (layI B a w hh).cells ks ∧ GeosAt h (Al wb X) (layI B a w hh).kids ks) := by
 obtain ⟨es, e1, e2⟩ := k.es;obtain ⟨r, h1, h2⟩ := find_ok (wb := wb) (X := X) (a := a) (w := w) (hh := hh) bx e2;unfold doLookup;simp only;rw [und70, e1];simp only;rw [keyOk75 rfl, cond_true, h1];rcases h2 with rfl | ⟨ks, rfl, g⟩
 ·unfold lookB;simp only;rw [zb37];exact ⟨_, false, rfl, rfl, fun h => by cases h⟩
 ·exact ⟨_, true, rfl, GeoT.cells_len _ _, fun _ => ⟨ks, rfl, g⟩⟩
theorem upd_ok {mb : Nat} (k : MapOk h n0 wb mb X) (bx : BoxAt h n0 B b o) {ks : S} (g : GeosAt h (Al wb X) (layI B a w hh).kids ks) : ∃ l, doMapUpdate Try.prog h 70 (some (.one (.m mb))) (some (.agg [.p b o, .i .i64 a, .i .i64 w, .i .i64 hh])) (some (.agg ((layI B a w hh).cells ks))) = some (.val (.tup []) (h.put mb (.map l))) ∧ EsOk h n0 wb X l := by
 obtain ⟨es, e1, e2⟩ := k.es;obtain ⟨r, h1, h2⟩ := find_ok (wb := wb) (X := X) (a := a) (w := w) (hh := hh) bx e2;unfold doMapUpdate;simp only;rw [und70, e1];simp only;rw [keyOk75 rfl, k.may, show (V.agg ((layI B a w hh).cells ks)).isTup = false from rfl, h1];simp only [Bool.not_false, Bool.and_self, cond_true];rcases h2 with rfl | ⟨ks', rfl, g'⟩
 ·simp only;rw [H.putK_eq];refine ⟨_, rfl, fun e he => ?_⟩;rcases List.mem_append.1 he with he | he
  ·exact e2 e he
  ·rw [List.mem_singleton.1 he]; exact ⟨B, b, o, a, w, hh, ks, rfl, bx, g⟩
 ·obtain ⟨l, h3, h4⟩ := swap_ok bx g e2 h1;simp only;rw [h3];simp only;rw [H.putK_eq];exact ⟨l, rfl, h4⟩
theorem MapOk.upd {mb : Nat} (k : MapOk h n0 wb mb X) {l : List (V × V)} (hl : EsOk h n0 wb X l) : MapOk (h.put mb (.map l)) n0 wb mb X := by
 obtain ⟨es, e1, e2⟩ := k.es;have lt := k.lt;have u : Up (· ≠ mb) h (h.put mb (.map l)) := .put fun q => q rfl
 refine ⟨⟨lt.1, lt.2.1, lt.2.2⟩, by rw [u.row (show wb ≠ mb by omega)]; exact k.w, by rw [u.may]; exact k.may, l, by rw [H.get_put e1, if_pos rfl], fun e he => ?_⟩;obtain ⟨B, b, o, a, w, hh, ks, e3, e4, e5⟩ := hl e he;exact ⟨B, b, o, a, w, hh, ks, e3, e4.mono fun q x hq hx => by rw [u.get (show q ≠ mb by omega)]; exact hx, e5.up u (fun q h1 h2 => by have := h1.1; show q ≠ mb; omega) fun _ h _ => h⟩
end
theorem fenced_sub {h : H} {l z : List (Nat × Nat)} {f q : Nat} {x : O} (e : (h.fenced l z f).get q = some x) : h.get q = some x := by
 obtain ⟨e1, e2⟩ := H.get_some e;rw [show (h.fenced l z f).hid = l ++ h.hid from rfl, hidden_append, Bool.or_eq_false_iff] at e1;exact H.get_of e1.2 e2
section
variable {spec : CallF} {nt : Nat} {T : Sl} {h : H} {K : Sl → H → Prop} {ops : Array Oper} {rg ld : List (Nat × Nat × Nat)} {ix : List (Nat × Nat × Bool)} {i m : Nat} {bar : Bool} {ty : TypeId} {ps : String} {af : Array Edge} {d : Tmp} {n0 wb mb b o : Nat} {X : Nat → Prop} {a w hh : Int} {B : BoxT} {x k y : Operand}
theorem WI_lookBox {h0 : H} (ho : ops.toList[i]? = some ⟨some d, .lookup 70 x k true, ty, ps, af, none⟩) (hx : ev T x = some (.one (.m mb))) (hv : ev T k = some (.agg [.p b o, .i .i64 a, .i .i64 w, .i .i64 hh])) (k0 : MapOk h0 n0 wb mb X) (u : Up (· < h0.next) h0 h) (off : ∀ q, q < h0.next → Off (unseen m rg) q) (offz : Off (cond bar (unseen m ld) []) mb) (fl : cond bar h.floor h.next ≤ mb) (bx : BoxAt h0 n0 B b o) (hd : d < nt)
  (hk : ∀ xs t, xs.length = 5 → (t = true → ∃ ks, xs = (layI B a w hh).cells ks ∧ GeosAt h (Al wb X) (layI B a w hh).kids ks) → WI Try.prog spec nt ops ix (T.set d (.tup [(true, xs), (false, [.b t])])) h ((i, h.next, h.next) :: rg) ld K) : WI Try.prog spec nt ops ((i, m, bar) :: ix) T h rg ld K := by
 have hmb := k0.lt
 have kF : MapOk (h.fenced (unseen m rg) (cond bar (unseen m ld) []) (cond bar h.floor h.next)) n0 wb mb X :=
  k0.mono u.next (fun q x _ hq hx => fenced_mono u off q x hq hx) (fun _ _ _ h => h) (fenced_may (off mb Om) offz fl (by rw [u.may]; exact k0.may))
 have bF : BoxAt (h.fenced (unseen m rg) (cond bar (unseen m ld) []) (cond bar h.floor h.next)) n0 B b o := bx.mono fun q x hq hx => fenced_mono u off q x Om hx
 obtain ⟨xs, t, h1, h2, h3⟩ := look_ok (a := a) (w := w) (hh := hh) kF bF;refine WI_look ho hx hv h1 hd (hk xs t h2 fun ht => ?_);obtain ⟨ks, e, g⟩ := h3 ht;exact ⟨ks, e, g.mono (Nat.le_refl _) (fun q x _ _ hx => fenced_sub hx) fun _ h _ => h⟩
theorem WI_updBox {ks : S} (ho : ops.toList[i]? = some ⟨none, .mapUpdate 70 x k y, ty, ps, af, none⟩) (hx : ev T x = some (.one (.m mb))) (hv : ev T k = some (.agg [.p b o, .i .i64 a, .i .i64 w, .i .i64 hh])) (hy : ev T y = some (.agg ((layI B a w hh).cells ks))) (k0 : MapOk h n0 wb mb X) (off : ∀ q, q < h.next → Off (unseen m rg) q) (offz : Off (cond bar (unseen m ld) []) mb) (fl : cond bar h.floor h.next ≤ mb) (bx : BoxAt h n0 B b o) (g : GeosAt h (Al wb X) (layI B a w hh).kids ks) (ok : Ok h)
  (hk : ∀ h1, MapOk h1 n0 wb mb X → Up (· ≠ mb) h h1 → h1.next = h.next → Ok h1 → WI Try.prog spec nt ops ix T h1 ((i, h.next, h.next) :: rg) ld K) : WI Try.prog spec nt ops ((i, m, bar) :: ix) T h rg ld K := by
 have hmb := k0.lt;have u := Up.refl (· < h.next) h
 have kF : MapOk (h.fenced (unseen m rg) (cond bar (unseen m ld) []) (cond bar h.floor h.next)) n0 wb mb X :=
  k0.mono (Nat.le_refl _) (fun q x _ hq hx => fenced_mono u off q x hq hx) (fun _ _ _ h => h) (fenced_may (off mb Om) offz fl k0.may)
 have bF : BoxAt (h.fenced (unseen m rg) (cond bar (unseen m ld) []) (cond bar h.floor h.next)) n0 B b o := bx.mono fun q x hq hx => fenced_mono u off q x Om hx
 have gF : GeosAt (h.fenced (unseen m rg) (cond bar (unseen m ld) []) (cond bar h.floor h.next)) (Al wb X) (layI B a w hh).kids ks := g.mono (Nat.le_refl _) (fun q x _ hq hx => fenced_mono u off q x hq hx) fun _ h _ => h
 obtain ⟨l, h1, h2⟩ := upd_ok kF bF gF
 have hl : EsOk h n0 wb X l := fun e he => by
  obtain ⟨B, b, o, a, w, hh, ks, e3, e4, e5⟩ := h2 e he;exact ⟨B, b, o, a, w, hh, ks, e3, e4.mono fun q x _ hx => fenced_sub hx, e5.mono (Nat.le_refl _) (fun q x _ _ hx => fenced_sub hx) fun _ h _ => h⟩
 have up : Up (· ≠ mb) h (h.put mb (.map l)) := .put fun q => q rfl
 exact WI_upd ho hx hv hy h1 (hk _ (k0.upd hl) up rfl (up.ok ok))
end
end Go.Ai
namespace Go.Ai
open Go.Proofs
theorem endI_co {l m : List Int} : CO (endI l m) := by
 unfold endI;split
 ·unfold CO; omega
 ·exact plI_in _ _
theorem kidsI_co {fv : List Int} {f : Frm} {K : List Kid} : CO (kidsI fv f K).2 := by
 unfold kidsI;split
 ·exact endI_co
 ·split
  ·exact endI_co
  ·exact endI_co
theorem fO_zero : fO 0 = 0 := by kernel_rfl
theorem size_corner {t r w h : Int} {k : List GeoT} {ks : S} : (GeoT.mk t r 0 0 w h k).cells ks = [.i .i64 t, .i .i64 r, .c .f64 0 0, ptS w h, ks] := by
 show [_, _, ptS 0 0, _, _] = _;unfold ptS;rw [fO_zero]
theorem lay_step {spec : CallF} (hs : SpecLay spec) {B : BoxT} (hL : ∀ C ∈ B.kids, LayFn spec C) : LayFn spec B := by
 intro h n0 wb mb b o X a w hh ok km hX bx qk;have bv := bx.own;have mlt := km.lt;have hbb := bv.val.lt;have vp := (bv.vok.at (i := 13) Om).2.2.2;refine WF_of Try.func37 rfl (hs.s _ _ _) (by rw [Try.ntmps37]; simp) (by rw [Try.ntmps37]; decide) ?_;rw [Try.ntmps37, Try.results37];simp only [Sl.setMany_cons, Sl.setMany_nil, Nat.zero_add, Nat.reduceAdd]
 (repeat refine zS ?_); refine zR ?_
 refine WO_boxA (ee) ok Dc fun h1 n1 => ?_;have e1 := n1.next;refine WO_alloc zb37 rfl n1.ok Dc fun h2 n2 => ?_;have e2 := n2.next;have u2 : Up (· < h.next) h h2 := n1.up.trans (n2.up.mono fun q hq => by omega);have ca2 := n2.up.cells (show h.next < h1.next by omega) n1.cells;have km2 := km.up u2;have bx2 : BoxAt h2 n0 B b o := bx.mono fun q x hq hx => by rw [u2.get (show q < h.next by omega)]; exact hx
 have wr2 := km2.w;refine zN ?_;refine zS ?_;refine W_cutR (fun T h4 => Up (· < h.next) h h4 ∧ Ok h4 ∧ Cells h4 h.next 75 [.p b o, .i .i64 a, .i .i64 w, .i .i64 hh] ∧ (∃ xs, xs.length = 5 ∧ Cells h4 h1.next 37 xs) ∧ h4.may h1.next = true ∧ h2.next ≤ h4.next ∧ T.get 0 = some (.one (.p wb 0)) ∧ T.get 3 = some (.one (.p h.next 0)) ∧ T.get 4 = some (.one (.p h1.next 0))) ?_ ?_
 ·repeat refine zS ?_
  refine W_drawn dr37_1 (by kernel_rfl) n2.ok.floor ?_;unfold dr37_1
  iterate 5 (first | (refine IL rfl zF Gs0 (Gd2 @wr2 @ca2.row) ?_) | (refine zO rfl ?_))
  refine WI_al rfl zb37 rfl n2.ok Dc fun h3 n3 => ?_;have e3 := n3.next;have u3 : Up (· < h.next) h h3 := u2.trans (n3.up.mono fun q hq => by omega);have km3 := km.up u3;have bx3 : BoxAt h3 n0 B b o := bx.mono fun q x hq hx => by rw [u3.get (show q < h.next by omega)]; exact hx
  have ca3 := n3.up.cells (show h.next < h2.next by omega) ca2;have cr3 := n3.up.cells (show h1.next < h2.next by omega) n2.cells;have wr3 := km3.w;have hfl := (H.may_iff km3.may).1.1;refine WI_lookBox (h0 := h) (X := fun q => X q ∨ h.next ≤ q) rfl (ee) (ee) (km.mono (Nat.le_refl _) (fun _ _ _ _ h => h) (fun q _ h1 h2 => h2.resolve_right Om) km.may) u3 (fun q hq => OffA) OffA hfl bx Dc fun xs t hxl hxt => ?_
  iterate 3 (refine zO rfl ?_)
  have hxn : xs ≠ [] := fun e => by rw [e] at hxl; cases hxl
  refine WI_storeA rfl (ee) (ee) sz37 hxl hxn n3.cells n3.may (by rw [hxl]; exact Nat.le_refl _) OffA OffA (by have := n3.ok.floor; have := (H.may_iff n3.may).1.1; first | exact this | (show _ ≤ _; omega)) fun h4 p4 => ?_;have p4 : Put h3 h4 h2.next 37 xs := p4.whole (by rw [hxl]; rfl);have e4 := p4.next;have ca4 := p4.up.cells (show h.next ≠ h2.next by omega) ca3;have cr4 := p4.up.cells (show h1.next ≠ h2.next by omega) cr3;have mr4 : h4.may h1.next = true := by rw [p4.up.may, n3.up.may]; exact n2.may
  have u4 : Up (· < h.next) h h4 := u3.trans (p4.up.mono fun q hq => by omega);have o4 := p4.ok n3.ok
  (refine zO rfl ?_)
  refine WI_nil ?_; (repeat refine zS ?_);refine zR ?_;refine VO ?_;refine zN ?_; (repeat refine zS ?_);refine zC (ee) (fun ht => ?_) (fun ht => W_skip ?_)
  ·obtain ⟨ks, rfl, g⟩ := hxt ht;refine zS (zR ?_);have r4 : h4.row h2.next 0 5 = some ((layI B a w hh).cells ks) := by have := p4.cells.all; rwa [hxl] at this
   (refine VX (Gd1 @r4) ?_)
   refine WO_storeA (ee) (ee) sz37 hxl hxn cr4 mr4 (by rw [hxl]; exact Nat.le_refl _) fun h5 p5 => ?_;have p5 : Put h4 h5 h1.next 37 ((layI B a w hh).cells ks) := p5.whole (by rw [hxl]; rfl);have r5 : h5.row h1.next 0 5 = some ((layI B a w hh).cells ks) := by have := p5.cells.all; rwa [hxl] at this
   have u5 : Up (· < h.next) h h5 := u4.trans (p5.up.mono fun q hq => by omega);refine zN (W_ret (.inr ⟨by simp, .inr rfl, _, by (simp only [resultB, resB, parts, V.part, Sl.get_set', ↓reduceIte, Nat.reduceEqDiff, LD37, r5, aggR_some] <;> rfl), ks, rfl, ?_, u5.mono fun q hq => hq.1, km.up u5, p5.ok o4⟩));have u35 : Up (· < h.next) h3 h5 := (p4.up.mono fun q hq => by omega).trans (p5.up.mono fun q hq => by omega);exact g.up u35 (fun q h1 _ => Nat.lt_of_not_le fun e => h1.2 (.inr e)) fun q h1 _ => ⟨h1.1, fun e => h1.2 (.inl e)⟩
  ·exact .inl ⟨rfl, u4, o4, ca4, ⟨_, rfl, cr4⟩, mr4, by omega, gs, gs, gs⟩
 rintro T h4 ⟨u4, o4, ca4, ⟨zs, zl, cr4⟩, mr4, hn4, t0, t3, t4⟩;have bx4 : BoxAt h4 n0 B b o := bx.mono fun q x hq hx => by rw [u4.get (show q < h.next by omega)]; exact hx
 (repeat refine zS ?_); refine zR ?_
 (refine VX (Gd2 @ca4.row @t3) ?_)
 refine WO_fn (ee) (by simp) Dc ((begin2_fn hs o4 Om bx4.own.val bv.vok qk).mono ?_);rintro _ h5 ⟨rfl, u5, o5⟩;have e5 := u5.next;refine WO_alloc zb83 rfl o5 Dc fun h6 n6 => ?_;have e6 := n6.next;refine WO_storeA (ee) (ee) sz83 rfl (by simp [Frm.cells]) n6.cells n6.may (by simp [V.cells, Frm.cells]) fun h7 p7 => ?_;have p7 : Put h6 h7 h5.next 83 ((beginI B.vals a w hh).cells b o) := p7.whole rfl;have e7 := p7.next;have o7 := p7.ok n6.ok;have v7 : Up (fun q => q < h4.next) h4 h7 := u5.trans ((n6.up.mono fun q hq => by omega).trans (p7.up.mono fun q hq => by omega));have u7 : Up (· < h.next) h h7 := u4.trans (v7.mono fun q hq => by omega);have bx7 : BoxAt h7 n0 B b o := bx.mono fun q x hq hx => by rw [u7.get (show q < h.next by omega)]; exact hx
 have hFh := begH_nn bv.vok qk
 have k7 : Fr h7 n0 wb mb (Own (fun q => X q ∨ q = h1.next ∨ q = h5.next) .sl0 .sl0 h5.next) h5.next B b o (beginI B.vals a w hh) := by
  refine ⟨km.mono u7.next (fun q x _ hq hx => by rw [u7.get hq]; exact hx) (fun q h1 h2 h3 => ?_) (by rw [u7.may]; exact km.may), bx7, p7.cells, ⟨by omega, by omega⟩, withinI_nn _ _, ?_, hFh⟩
  ·rcases h3 with (h3 | h3 | h3) | h3 | h3 | h3 | h3
   ·exact h3
   ·omega
   ·omega
   ·cases h3
   ·cases h3
   ·omega
   ·cases h3
  ·show NN (if _ then _ else _);split
   ·exact withinI_nn _ _
   ·unfold NN; omega
 skip
 refine zN ?_; (repeat refine zS ?_);refine zR ?_
 (refine VX (Ga1 @t0) ?_)
 refine WO_fn (ee) (by simp) Dc ((kids_fn hs o7 k7 (fun q hq => by
  rcases hq with hq | hq | hq
  ·have := hX q hq; omega
  ·omega
  ·omega) hL).mono ?_)
 rintro _ h8 ⟨x, rfl, g8, u8, k8, o8⟩;have e8 := u8.next;have hcon : CO (kidsI B.vals (beginI B.vals a w hh) (B.kids.map kidOf)).2 := kidsI_co;have ca7 := v7.cells (show h.next < h4.next by omega) ca4;have ca8 := u8.cells (b := h.next) ⟨by omega, by omega, by omega⟩ ca7;have cr8 := u8.cells (b := h1.next) ⟨by omega, by omega, by omega⟩ (v7.cells (show h1.next < h4.next by omega) cr4);have mr8 : h8.may h1.next = true := by rw [u8.may, v7.may]; exact mr4
 have mf8 : h8.may h5.next = true := by rw [u8.may]; exact p7.may
 have cf8 := k8.cf;have bv8 := k8.box.own;have lI := layI_eq B a w hh;have hLh : (layI B a w hh).h = if (beginI B.vals a w hh).h = -1 then highI B.vals (plI (kidsI B.vals (beginI B.vals a w hh) (B.kids.map kidOf)).2 (twI (vAt B.vals 13))) else (beginI B.vals a w hh).h := by rw [lI]; rfl
 have hLc : ∀ ks, (layI B a w hh).cells ks = [.i .i64 B.t, .i .i64 B.r, .c .f64 0 0, ptS (beginI B.vals a w hh).w (layI B a w hh).h, ks] := fun ks => by rw [lI]; exact size_corner
 have hLk : (layI B a w hh).kids = (kidsI B.vals (beginI B.vals a w hh) (B.kids.map kidOf)).1 := by rw [lI]; rfl
 rw [← hLk] at g8;generalize kidsI B.vals (beginI B.vals a w hh) (B.kids.map kidOf) = KK at *;generalize beginI B.vals a w hh = F at *;unfold Frm.cells at cf8
 iterate 5 (refine VO ?_)
 refine zN ?_;refine zS ?_;refine W_cut (fun T h9 => Up (fun q => q < h8.next ∧ q ≠ h5.next) h8 h9 ∧ Ok h9 ∧ Cells h9 h5.next 83 [.p b o, .i .i64 F.w, .i .i64 (layI B a w hh).h, .i .i64 F.inner, .i .i64 F.tall] ∧ T.get 0 = some (.one (.p wb 0)) ∧ T.get 3 = some (.one (.p h.next 0)) ∧ T.get 4 = some (.one (.p h1.next 0)) ∧ T.get 7 = some (.one (.p h5.next 0)) ∧ T.get 8 = some (.one x)) ?_ ?_
 ·(repeat refine zS ?_); refine zR ?_
  refine VO ?_
  (refine VX (Gd1 @cf8.row) ?_)
  (refine VX (zB ee ee in_eql) ?_)
  refine zN ?_; (repeat refine zS ?_);refine zC (ee) (fun hc => ?_) (fun hc => W_skip ?_)
  ·have hc : F.h = -1 := by simpa using hc
   rw [if_pos hc] at hLh;refine zS (zR ?_)
   (refine VX (Ga1 @t3) ?_)
   (refine VX (Gd2 @ca8.row @t3) ?_)
   refine WO_fn (ee) (by simp) Dc ((v_fn hs bv8.val (i := 13) (bv.vok.at Om).1).mono ?_);rintro _ h8 ⟨rfl, rfl⟩;refine VO ?_;refine zN ?_;refine W_drawn dr37_8 (by kernel_rfl) o8.floor ?_;unfold dr37_8
   iterate 5 (first | (refine IL rfl zF (Gs1 @t3) (Gd1 @ca8.row) ?_) | (refine IX rfl (Ga1 @t3) ?_))
   refine WI_bs1 rfl el26 ⟨_, ze26⟩ (ee) o8 Dc fun h9 n9 => ?_;have e9 := n9.next;refine CP rfl (ee) (plus1 hs vp vp (n9.cells.fenced OffA)) ?_;refine WI_bs1 rfl el26 ⟨_, ze26⟩ (ee) n9.ok Dc fun h10 n10 => ?_;have e10 := n10.next;refine CP rfl (ee) (plus1 hs hcon (plI_in _ _) (n10.cells.fenced OffA)) ?_;have v10 : Up (· < h8.next) h8 h10 := n9.up.trans (n10.up.mono fun q hq => by omega);refine CP rfl (ee) (high_fn hs ((bv8.val.up v10 fun q hq => by omega).fenced fun q hq => OffA) bv.vok) ?_;have cf10 := v10.cells (show h5.next < h8.next by omega) cf8;have mf10 : h10.may h5.next = true := by rw [v10.may]; exact mf8
   (refine zO rfl ?_)
   refine WI_store1 rfl (ee) (ee) sz3 cf10 mf10 (by simp) OffA OffA (H.may_iff mf10).1.1 fun h11 p11 => ?_;have c11 := p11.cells;change Cells h11 h5.next 83 [.p b o, .i .i64 F.w, .i .i64 (highI B.vals (plI KK.2 (twI (vAt B.vals 13)))), .i .i64 F.inner, .i .i64 F.tall] at c11;rw [← hLh] at c11;exact WI_nil ⟨by trivial, (v10.mono fun q hq => hq.1).trans (p11.up.mono fun q hq => hq.2), p11.ok n10.ok, c11, gt t0, gt t3, gt t4, gs, gs⟩
  ·have hc : ¬ F.h = -1 := by simpa using hc
   rw [if_neg hc] at hLh;rw [hLh];exact ⟨rfl, .refl _ _, o8, cf8, gt t0, gt t3, gt t4, gs, gs⟩
 clear t0 t3 t4;rintro T h9 ⟨u9, o9, cf9, t0, t3, t4, t7, t8⟩;have e9 := u9.next;have ca9 := u9.cells (b := h.next) ⟨by omega, by omega⟩ ca8;have cr9 := u9.cells (b := h1.next) ⟨by omega, by omega⟩ cr8;have mr9 : h9.may h1.next = true := by rw [u9.may]; exact mr8
 have low9 : ∀ q, q < n0 → q < h8.next ∧ q ≠ h5.next := fun q hq => by omega
 have bx9 : BoxAt h9 n0 B b o := k8.box.mono fun q x hq hx => by rw [u9.get (low9 q hq)]; exact hx
 have hid9 : h9.row b (o + 0) 2 = some [.i .i64 B.t, .i .i64 B.r] := bx9.own.id
 repeat refine zS ?_
 refine W_drawn dr37_9 (by kernel_rfl) o9.floor ?_;unfold dr37_9
 iterate 10 (first | (refine IL rfl zF (Gs3 @t3 @t7 @t8) (Gd3 @ca9.row @hid9 @cf9.row) ?_) | (refine IX rfl (Ga3 @t3 @t7 @t8) ?_))
 refine WI_al rfl zb37 rfl o9 Dc fun h10 n10 => ?_;have e10 := n10.next;refine CP rfl (ee) (make_fn hs) ?_;refine WI_val (v := .agg ((layI B a w hh).cells x)) rfl zF rfl (by rw [ex_build, hLc]; exact bd_of (by kernel_rfl : placesOf Try.prog 37 = some [(0, 2), (2, 1), (3, 1), (4, 1)]) zb37 (by simp only [evParts, go_sem, ↓reduceIte, Nat.reduceEqDiff]; rfl) rfl) Dc ?_;have hcl := GeoT.cells_len (layI B a w hh) x;have hcn : (layI B a w hh).cells x ≠ [] := fun e => by rw [e] at hcl; cases hcl
 refine WI_storeA rfl (ee) (ee) sz37 hcl hcn n10.cells n10.may (by rw [hcl]; exact Nat.le_refl _) OffA OffA (H.may_iff n10.may).1.1 fun h11 p11 => ?_;have p11 : Put h10 h11 h9.next 37 ((layI B a w hh).cells x) := p11.whole (by rw [hcl]; rfl);have e11 := p11.next;have o11 := p11.ok n10.ok;have v11 : Up (· < h9.next) h9 h11 := n10.up.trans (p11.up.mono fun q hq => by omega);have r11 : h11.row h9.next 0 5 = some ((layI B a w hh).cells x) := by have := p11.cells.all; rwa [hcl] at this
 have ca11 := v11.cells (show h.next < h9.next by omega) ca9;have u811 : Up (fun q => q < h8.next ∧ q ≠ h5.next) h8 h11 := u9.trans (v11.mono fun q hq => by omega)
 have km11 : MapOk h11 n0 wb mb (fun q => X q ∨ q = h1.next ∨ q = h5.next) := k8.map.mono u811.next (fun q z hq hn hz => by
  rw [u811.get ⟨hn, fun e => hq.elim (fun h => by omega) fun h => h (.inr (.inr e))⟩]; exact hz) (fun _ _ _ h => h) (by rw [u811.may]; exact k8.map.may)
 have bx11 : BoxAt h11 n0 B b o := k8.box.mono fun q x hq hx => by rw [u811.get (low9 q hq)]; exact hx
 have g11 : GeosAt h11 (Al wb fun q => X q ∨ q = h1.next ∨ q = h5.next) (layI B a w hh).kids x := g8.up u811 (fun q h1 h2 => ⟨h2, fun e => h1.2 (.inr (.inr e))⟩) fun _ h _ => h
 have wr11 := km11.w;refine WI_nil ?_; (repeat refine zS ?_);refine W_drawn dr37_10 (by kernel_rfl) o11.floor ?_;unfold dr37_10
 iterate 3 (refine IX rfl (Ga2 @t0 @t3) ?_)
 iterate 3 (refine IL rfl zF (Gs2 @t0 @t3) (Gd3 @wr11 @ca11.row @r11) ?_)
 refine WI_updBox (B := B) rfl (ee) (ee) (ee) km11 (fun q hq => OffA) OffA (H.may_iff km11.may).1.1 bx11 g11 o11 fun h12 km12 u12 e12 o12 => ?_;have r12 : h12.row h9.next 0 5 = some ((layI B a w hh).cells x) := by rw [u12.row (show h9.next ≠ mb by omega)]; exact r11
 have cr12 := u12.cells (show h1.next ≠ mb by omega) (v11.cells (show h1.next < h9.next by omega) cr9);have mr12 : h12.may h1.next = true := by rw [u12.may, v11.may]; exact mr9
 have g12 : GeosAt h12 (Al wb fun q => X q ∨ q = h1.next ∨ q = h5.next) (layI B a w hh).kids x := g11.up u12 (fun q h1 h2 => by have := h1.1; show q ≠ mb; omega) fun _ h _ => h
 refine WI_nil ?_; (repeat refine zS ?_);refine zR ?_
 (refine VX (Gd1 @r12) ?_)
 refine WO_storeA (Gt1 @t4) (ee) sz37 hcl hcn cr12 mr12 (by rw [hcl, zl]; exact Nat.le_refl _) fun h13 p13 => ?_;have p13 : Put h12 h13 h1.next 37 ((layI B a w hh).cells x) := p13.whole (by rw [hcl, zl]);have r13 : h13.row h1.next 0 5 = some ((layI B a w hh).cells x) := by have := p13.cells.all; rwa [hcl] at this
 have km13 : MapOk h13 n0 wb mb X := km12.mono p13.up.next (fun q z hq hn hz => by
  rw [p13.up.get (show q ≠ h1.next from hq.elim (fun h => by omega) fun h e => h (.inr (.inl e)))]; exact hz) (fun _ _ _ h => .inl h) (by rw [p13.up.may]; exact km12.may)
 refine zN (W_ret ⟨.inr rfl, _, by (simp only [resultB, resB, parts, V.part, Sl.get_set', ↓reduceIte, Nat.reduceEqDiff, t4, LD37, r13, aggR_some] <;> rfl), x, rfl, g12.up p13.up (fun q h1 _ e => h1.2 (.inr (.inl e))) (fun q h1 _ => ⟨h1.1, fun e => h1.2 (.inl e)⟩), ?_, km13, p13.ok o12⟩);exact (u7.mono fun q hq => hq.1).trans ((u8.mono fun q hq => ⟨by omega, hq.2, by omega⟩).trans ((u811.mono fun q hq => ⟨by omega, by omega⟩).trans ((u12.mono fun q hq => hq.2).trans (p13.up.mono fun q hq => by omega))))
theorem lay_fn {spec : CallF} (hs : SpecLay spec) (B : BoxT) : LayFn spec B := lay_step hs fun C hC => lay_fn hs C
termination_by SizeOf.sizeOf B
decreasing_by
 cases B with
 | mk t r vals kids =>
  have h : SizeOf.sizeOf C < SizeOf.sizeOf kids := List.sizeOf_lt_of_mem hC;simp; omega
end Go.Ai
