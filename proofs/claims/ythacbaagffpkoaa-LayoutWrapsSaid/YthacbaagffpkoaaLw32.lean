/-
LayoutWraps, part 32 of 48: FxLayF FxLayR FxLayH.
-/
import Derived.Test.YthacbaagffpkoaaLw31
set_option linter.unusedVariables false
set_option linter.unusedSimpArgs false
set_option maxRecDepth 100000
set_option maxHeartbeats 0
namespace Go.Ai
open Go.Proofs
section
variable {T : Sl} {h : H} {d : Option Tmp} {ty : TypeId} {ps : String} {af : Array Edge} {g : Option (Nat × Bool)}
theorem ex_toF {x : Operand} {a : Int} (hx : ev T x = some (.one (.i .i64 a))) : execO Try.prog T h ⟨d, .convert 3 49 x, ty, ps, af, g⟩ = some (.val (.one (.f .f64 (fO a))) h) := by
 refine ex_pure (v := .float .f64 (fO a)) ?_ ?_ ?_ rfl
 ·show orPure Try.prog T h _ (doConv Try.prog h 3 49 (ev T x)) = _;rw [hx]; rfl
 ·show allConc T [x] = true;simp only [allConc, evc, hx]; rfl
 ·have hp : ∀ ρ : Operand → Value, ρ x = .int .i64 a → prun Try.prog (execOp ρ ⟨d, .convert 3 49 x, ty, ps, af, g⟩) = some (.value (.float .f64 (fO a))) := by
   intro ρ h1;simp [execOp, h1, convert, underlying, program, Try.underlying3, Try.underlying49, Conv.intToFloat, Bind.bind, Pure.pure, Sem.bind, prun, fO]
  exact hp _ (by simp only [evc, hx]; rfl)
theorem ex_ofF {x : Operand} {a : Int} (ha : CO a) (hx : ev T x = some (.one (.f .f64 (fO a)))) : execO Try.prog T h ⟨d, .convert 49 3 x, ty, ps, af, g⟩ = some (.val (.one (.i .i64 a)) h) := by
 unfold CO at ha;have hA : F64.Ok a := by unfold F64.Ok; omega
 refine ex_pure (v := .int .i64 a) ?_ ?_ ?_ rfl
 ·show orPure Try.prog T h _ (doConv Try.prog h 49 3 (ev T x)) = _;rw [hx]; rfl
 ·show allConc T [x] = true;simp only [allConc, evc, hx]; rfl
 ·obtain ⟨s, hs⟩ := F64.reps a hA.abs;have hi : (FloatKind.f64.decode (fO a)).toInt .zero = some a := F64.toInt_reps hs
  have hp : ∀ ρ : Operand → Value, ρ x = .float .f64 (fO a) → prun Try.prog (execOp ρ ⟨d, .convert 49 3 x, ty, ps, af, g⟩) = some (.value (.int .i64 a)) := by
   intro ρ h1
   have hr : prun Try.prog (Conv.floatToInt .f64 (fO a) .i64) = some (.int .i64 a) := by
    unfold Conv.floatToInt;rw [hi];simp only;rw [if_pos (by rw [F64.i64_min, F64.i64_max]; omega)];rfl
   simp [execOp, h1, convert, underlying, program, Try.underlying3, Try.underlying49, Bind.bind, Pure.pure, Sem.bind, prun];show prun Try.prog (Conv.floatToInt FloatKind.f64 (fO a) IntKind.i64 >>= fun v => Sem.pure (Next.value v)) = _;rw [prun_bind, hr]; rfl
  exact hp _ (by simp only [evc, hx]; rfl)
theorem ex_cpx {x y : Operand} {a b : Nat} {t u : TypeId} (hx : ev T x = some (.one (.f .f64 a))) (hy : ev T y = some (.one (.f .f64 b))) : execO Try.prog T h ⟨d, .call ⟨.builtin .complex, #[x, y], #[t, u]⟩, ty, ps, af, g⟩ = some (.val (.one (.c .f64 a b)) h) := by
 refine ex_pure (v := .complex .f64 a b) ?_ ?_ ?_ rfl
 ·rfl
 ·show allConc T [x, y] = true;simp only [allConc, evc, hx, hy]; rfl
 ·have hp : ∀ ρ : Operand → Value, ρ x = .float .f64 a → ρ y = .float .f64 b → prun Try.prog (execOp ρ ⟨d, .call ⟨.builtin .complex, #[x, y], #[t, u]⟩, ty, ps, af, g⟩) = some (.value (.complex .f64 a b)) := by
   intro ρ h1 h2;simp only [execOp, resolve, List.map_toArray, List.map_cons, List.map_nil, h1, h2, invoke, builtin]; rfl
  exact hp _ (by simp only [evc, hx]; rfl) (by simp only [evc, hy]; rfl)
theorem ex_real {x : Operand} {a b : Nat} {t : TypeId} (hx : ev T x = some (.one (.c .f64 a b))) : execO Try.prog T h ⟨d, .call ⟨.builtin .real, #[x], #[t]⟩, ty, ps, af, g⟩ = some (.val (.one (.f .f64 a)) h) := by
 refine ex_pure (v := .float .f64 a) ?_ ?_ ?_ rfl
 ·rfl
 ·show allConc T [x] = true;simp only [allConc, evc, hx]; rfl
 ·have hp : ∀ ρ : Operand → Value, ρ x = .complex .f64 a b → prun Try.prog (execOp ρ ⟨d, .call ⟨.builtin .real, #[x], #[t]⟩, ty, ps, af, g⟩) = some (.value (.float .f64 a)) := by
   intro ρ h1;simp only [execOp, resolve, List.map_toArray, List.map_cons, List.map_nil, h1, invoke, builtin]; rfl
  exact hp _ (by simp only [evc, hx]; rfl)
theorem ex_imag {x : Operand} {a b : Nat} {t : TypeId} (hx : ev T x = some (.one (.c .f64 a b))) : execO Try.prog T h ⟨d, .call ⟨.builtin .imag, #[x], #[t]⟩, ty, ps, af, g⟩ = some (.val (.one (.f .f64 b)) h) := by
 refine ex_pure (v := .float .f64 b) ?_ ?_ ?_ rfl
 ·rfl
 ·show allConc T [x] = true;simp only [allConc, evc, hx]; rfl
 ·have hp : ∀ ρ : Operand → Value, ρ x = .complex .f64 a b → prun Try.prog (execOp ρ ⟨d, .call ⟨.builtin .imag, #[x], #[t]⟩, ty, ps, af, g⟩) = some (.value (.float .f64 b)) := by
   intro ρ h1;simp only [execOp, resolve, List.map_toArray, List.map_cons, List.map_nil, h1, invoke, builtin]; rfl
  exact hp _ (by simp only [evc, hx]; rfl)
end
def ptS (x y : Int) : S := .c .f64 (fO x) (fO y)
theorem make_fn {spec : CallF} (hs : SpecLay spec) {h : H} {x y : Int} :
  WF Try.prog spec 34 [.one (.i .i64 x), .one (.i .i64 y)] h fun r h1 => r = .one (ptS x y) ∧ h1 = h := by
 refine WF_of Try.func34 rfl (hs.s _ _ _) (by rw [Try.ntmps34]; simp) (by rw [Try.ntmps34]; decide) ?_;rw [Try.ntmps34, Try.results34];simp only [Sl.setMany_cons, Sl.setMany_nil, Nat.zero_add, Nat.reduceAdd]
 (repeat refine zS ?_); refine zR ?_
 refine zV (v := .one (.c .f64 0 0)) rfl Dc ?_;refine zN ?_; (repeat refine zS ?_);refine zR ?_;refine VO ?_;refine zV (ex_toF (ee)) Dc ?_;refine VO ?_;refine zV (ex_toF (ee)) Dc ?_;refine zV (ex_cpx (ee) (ee)) Dc ?_;refine VO ?_;exact zN (W_ret ⟨.inr rfl, _, RbA, rfl, rfl⟩)
def gcells (t r cx cy w h : Int) (ks : S) : List S := [.i .i64 t, .i .i64 r, ptS cx cy, ptS w h, ks]
theorem size_fn2 {spec : CallF} (hs : SpecLay spec) {h : H} {t r cx cy gw gh : Int} {ks : S} (ok : Ok h) (hw : CO gw) (hh : CO gh) :
  WF Try.prog spec 65 [.agg (gcells t r cx cy gw gh ks)] h fun v h1 => v = .tup [(false, [.i .i64 gw]), (false, [.i .i64 gh])] ∧ Up (· < h.next) h h1 ∧ Ok h1 := by
 refine WF_of Try.func65 rfl (hs.s _ _ _) (by rw [Try.ntmps65]; simp) (by rw [Try.ntmps65]; decide) ?_;rw [Try.ntmps65, Try.results65];simp only [Sl.setMany_cons, Sl.setMany_nil, Nat.zero_add, Nat.reduceAdd]
 (repeat refine zS ?_); refine zR ?_
 refine WO_boxA (ee) ok Dc fun h1 n1 => ?_;have e1 := n1.next;have r3 : h1.row h.next 3 1 = some [ptS gw gh] := n1.cells.at1 rfl
 iterate 2 (refine VO ?_)
 refine zN ?_; (repeat refine zS ?_);refine W_drawn dr65_1 (by kernel_rfl) n1.ok.floor ?_;unfold dr65_1
 (refine zO rfl ?_)
 (refine IL rfl zF Gs0 (Gd1 @r3) ?_)
 refine WI_val rfl zF rfl (ex_real (ee)) Dc ?_;refine WI_val rfl zF rfl (ex_ofF hw (ee)) Dc ?_
 iterate 1 refine zO rfl ?_
 refine IL rfl zF Gs0 (Gd1 @r3) ?_;refine WI_val rfl zF rfl (ex_imag (ee)) Dc ?_;refine WI_val rfl zF rfl (ex_ofF hh (ee)) Dc ?_
 iterate 2 refine zO rfl ?_
 exact WI_nil (W_ret ⟨.inr rfl, _, RbA, rfl, n1.up, n1.ok⟩)
structure Frm where
 w : Int
 h : Int
 inner : Int
 tall : Int
def Frm.cells (f : Frm) (b o : Nat) : List S := [.p b o, .i .i64 f.w, .i .i64 f.h, .i .i64 f.inner, .i .i64 f.tall]
def putI (fv kv : List Int) (x : Int) : Int := plusI (vAt fv 13) [x, vAt kv 12]
theorem two_co {a b : Int} (ha : CO a) (hb : CO b) : ∀ x ∈ [a, b], CO x := by
 intro x hx;rcases List.mem_cons.1 hx with rfl | hx
 ·exact ha
 ·rw [List.mem_singleton.1 hx]; exact hb
theorem put_fn {spec : CallF} (hs : SpecLay spec) {h : H} {n0 pf bb bo kb ko : Nat} {f : Frm} {fv kv : List Int} {x y : Int} (ok : Ok h) (hn : n0 ≤ h.next) (hf : h.row pf 0 1 = some [.p bb bo]) (hfl : pf < h.next) (kf : Vals h n0 bb bo fv) (vf : VOk fv) (kk : Vals h n0 kb ko kv) (vk : VOk kv) (hx : CO x) (hy : CO y) :
  WF Try.prog spec 68 [.one (.p pf 0), .one (.p kb ko), .one (.i .i64 x), .one (.i .i64 y)] h fun r h1 => r = .one (ptS (putI fv kv x) (putI fv kv y)) ∧ Up (· < h.next) h h1 ∧ Ok h1 := by
 have hm := (vk.at (i := 12) Om).2.2.2;have hp := (vf.at (i := 13) Om).2.2.2;refine WF_of Try.func68 rfl (hs.s _ _ _) (by rw [Try.ntmps68]; simp) (by rw [Try.ntmps68]; decide) ?_;rw [Try.ntmps68, Try.results68];simp only [Sl.setMany_cons, Sl.setMany_nil, Nat.zero_add, Nat.reduceAdd]
 (repeat refine zS ?_); refine zR ?_
 refine zV (v := .one (.c .f64 0 0)) rfl Dc ?_;refine zN ?_; (repeat refine zS ?_);refine W_drawn dr68_1 (by kernel_rfl) ok.floor ?_;unfold dr68_1
 iterate 4 (refine zO rfl ?_)
 (refine IL rfl zF Gs0 (Gd1 @hf) ?_)
 refine WI_call rfl rfl (doCall_fn (ee) (by simp)) Dc ((v_fn hs (kk.fenced fun q hq => OffA) (i := 12) (vk.at Om).1).mono ?_);rintro _ _ ⟨rfl, rfl⟩;simp only [back_fenced, fenced_next];refine WI_call rfl rfl (doCall_fn (ee) (by simp)) Dc ((v_fn hs (kf.fenced fun q hq => OffA) (i := 13) (vf.at Om).1).mono ?_);rintro _ _ ⟨rfl, rfl⟩;simp only [back_fenced, fenced_next]
 iterate 2 (refine zO rfl ?_)
 refine WI_nil ?_; (repeat refine zS ?_);refine zR ?_
 iterate 3 (refine VO ?_)
 refine WO_bsN zF el26 ze26 (by simp only [evParts, go_sem, ↓reduceIte, Nat.reduceEqDiff]; rfl) rfl (cells := nums [x, vAt kv 12]) rfl ok Dc fun h2 n2 => ?_;have e2 := n2.next;refine WO_fn (ee) (by simp) Dc ((plus_fn (hs.s _) (hs.s _) (l := [x, vAt kv 12]) hp (two_co hx hm) (by simp) (fun k x hx => n2.cells.at1 (nums_get hx))).mono ?_);rintro _ h2 ⟨rfl, rfl⟩
 iterate 3 (refine VO ?_)
 refine WO_bsN zF el26 ze26 (by simp only [evParts, go_sem, ↓reduceIte, Nat.reduceEqDiff]; rfl) rfl (cells := nums [y, vAt kv 12]) rfl n2.ok Dc fun h3 n3 => ?_;have e3 := n3.next;refine WO_fn (ee) (by simp) Dc ((plus_fn (hs.s _) (hs.s _) (l := [y, vAt kv 12]) hp (two_co hy hm) (by simp) (fun k x hx => n3.cells.at1 (nums_get hx))).mono ?_);rintro _ h3 ⟨rfl, rfl⟩;refine WO_fn (ee) (by simp) Dc ((make_fn hs).mono ?_);rintro _ h3 ⟨rfl, rfl⟩;refine VO ?_;exact zN (W_ret ⟨.inr rfl, _, RbA, rfl, n2.up.trans (n3.up.mono fun b hb => by omega), n3.ok⟩)
def begW (vals : List Int) (avail w : Int) : Int := if w = -1 then wideI vals (if vAt vals 3 = -1 then withinI avail (vAt vals 12) else vAt vals 3) else w
def begH (vals : List Int) (h : Int) : Int := if h = -1 ∧ vAt vals 4 ≠ -1 then highI vals (vAt vals 4) else h
def beginI (vals : List Int) (avail w h : Int) : Frm :=
 ⟨begW vals avail w, begH vals h, withinI (begW vals avail w) (vAt vals 13), if begH vals h ≠ -1 then withinI (begH vals h) (vAt vals 13) else 0⟩
structure QOk (avail w h : Int) : Prop where
 a : 0 ≤ avail ∧ avail ≤ 1099511627776
 w : -1 ≤ w ∧ w ≤ 1099511627776
 h : -1 ≤ h ∧ h ≤ 1099511627776
theorem clampI_nn {x lo hi : Int} (hx : x ≤ 1099511627776) (hlo : 0 ≤ lo ∧ lo ≤ 1099511627776) (hhi : hi ≤ 1099511627776) : 0 ≤ clampI x lo hi ∧ clampI x lo hi ≤ 1099511627776 := by
 unfold clampI; split <;> omega
theorem wideI_nn {vals : List Int} (k : VOk vals) {x : Int} (hx : x ≤ 1099511627776) : 0 ≤ wideI vals x ∧ wideI vals x ≤ 1099511627776 := by
 have h5 := k.bd 5 Om;have h6 := k.bd 6 Om;exact clampI_nn hx h5 h6.2
theorem highI_nn {vals : List Int} (k : VOk vals) {x : Int} (hx : x ≤ 1099511627776) : 0 ≤ highI vals x ∧ highI vals x ≤ 1099511627776 := by
 have h7 := k.bd 7 Om;have h8 := k.bd 8 Om;exact clampI_nn hx h7 h8.2
theorem withinI_nn (n s : Int) : 0 ≤ withinI n s ∧ withinI n s ≤ 1099511627776 := restI_in _ _
theorem begW_nn {vals : List Int} (k : VOk vals) {avail w h : Int} (q : QOk avail w h) : 0 ≤ begW vals avail w ∧ begW vals avail w ≤ 1099511627776 := by
 have h3 := k.bd 3 Om;have hw := q.w;have h1 := withinI_nn avail (vAt vals 12);have h2 : vAt vals 3 ≤ 1099511627776 := h3.2;unfold begW;split
 ·refine wideI_nn k ?_;split <;> omega
 ·omega
theorem begH_nn {vals : List Int} (k : VOk vals) {avail w h : Int} (q : QOk avail w h) : -1 ≤ begH vals h ∧ begH vals h ≤ 1099511627776 := by
 have h4 := k.bd 4 Om;have hh := q.h;have h2 : vAt vals 4 ≤ 1099511627776 := h4.2;unfold begH;split
 ·have := highI_nn k h2; omega
 ·exact hh
theorem co_of {x : Int} (h : -1 ≤ x ∧ x ≤ 1099511627776) : CO x := by unfold CO; omega
theorem co_nn {x : Int} (h : 0 ≤ x ∧ x ≤ 1099511627776) : CO x := by unfold CO; omega
structure BegS (h0 h : H) (T : Sl) (qa qr qf b o : Nat) (avail w hh : Int) (f : Frm) : Prop where
 t1 : T.get 1 = some (.one (.p qa 0))
 t2 : T.get 2 = some (.one (.p qr 0))
 t3 : T.get 3 = some (.one (.p qf 0))
 ca : Cells h qa 75 [.p b o, .i .i64 avail, .i .i64 w, .i .i64 hh]
 cf : Cells h qf 83 (f.cells b o)
 cr : ∃ xs, xs.length = 5 ∧ Cells h qr 83 xs
 mf : h.may qf = true
 mr : h.may qr = true
 up : Up (· < h0.next) h0 h
 ok : Ok h
 lt : qf < h.next ∧ h0.next ≤ qa ∧ qa < qr ∧ qr < qf
theorem BegS.step {h0 h h1 : H} {T T1 : Sl} {qa qr qf b o : Nat} {avail w hh : Int} {f f1 : Frm} (k : BegS h0 h T qa qr qf b o avail w hh f) (p : Put h h1 qf 83 (f1.cells b o)) (t1 : T1.get 1 = T.get 1) (t2 : T1.get 2 = T.get 2) (t3 : T1.get 3 = T.get 3) : BegS h0 h1 T1 qa qr qf b o avail w hh f1 := by
 have l := k.lt;obtain ⟨xs, x1, x2⟩ := k.cr;exact ⟨t1.trans k.t1, t2.trans k.t2, t3.trans k.t3, p.up.cells (show qa ≠ qf by omega) k.ca, p.cells, ⟨xs, x1, p.up.cells (show qr ≠ qf by omega) x2⟩, p.may, by rw [p.up.may]; exact k.mr, k.up.trans (p.up.mono fun b hb => by omega), p.ok k.ok, by rw [p.next]; exact l⟩
theorem BegS.same {h0 h : H} {T T1 : Sl} {qa qr qf b o : Nat} {avail w hh : Int} {f : Frm} (k : BegS h0 h T qa qr qf b o avail w hh f) (t1 : T1.get 1 = T.get 1) (t2 : T1.get 2 = T.get 2) (t3 : T1.get 3 = T.get 3) : BegS h0 h T1 qa qr qf b o avail w hh f :=
 ⟨t1.trans k.t1, t2.trans k.t2, t3.trans k.t3, k.ca, k.cf, k.cr, k.mf, k.mr, k.up, k.ok, k.lt⟩
theorem BegS.upLt {h0 h h1 : H} {T : Sl} {qa qr qf b o : Nat} {avail w hh : Int} {f : Frm} (k : BegS h0 h T qa qr qf b o avail w hh f) (u : Up (· < h.next) h h1) (ok : Ok h1) : BegS h0 h1 T qa qr qf b o avail w hh f := by
 have l := k.lt;obtain ⟨xs, x1, x2⟩ := k.cr;exact ⟨k.t1, k.t2, k.t3, u.cells Om k.ca, u.cells l.1 k.cf, ⟨xs, x1, u.cells Om x2⟩, by rw [u.may]; exact k.mf, by rw [u.may]; exact k.mr, k.up.trans (u.mono fun b hb => by have := k.up.next; omega), ok, by have := u.next; omega⟩
theorem begin2_fn {spec : CallF} (hs : SpecLay spec) {h : H} {n0 b o : Nat} {avail w hh : Int} {vals : List Int} (ok : Ok h) (hn : n0 ≤ h.next) (k : Vals h n0 b o vals) (vok : VOk vals) (q : QOk avail w hh) :
  WF Try.prog spec 45 [.agg [.p b o, .i .i64 avail, .i .i64 w, .i .i64 hh]] h fun r h1 => r = .agg ((beginI vals avail w hh).cells b o) ∧ Up (· < h.next) h h1 ∧ Ok h1 := by
 have vm := (vok.at (i := 12) Om).2.2.2;have vp := (vok.at (i := 13) Om).2.2.2;refine WF_of Try.func45 rfl (hs.s _ _ _) (by rw [Try.ntmps45]; simp) (by rw [Try.ntmps45]; decide) ?_;rw [Try.ntmps45, Try.results45];simp only [Sl.setMany_cons, Sl.setMany_nil, Nat.zero_add, Nat.reduceAdd]
 (repeat refine zS ?_); refine zR ?_
 refine WO_boxA (ee) ok Dc fun h1 n1 => ?_;have e1 := n1.next;refine WO_alloc zb83 rfl n1.ok Dc fun h2 n2 => ?_;have e2 := n2.next;have c2 := n2.up.cells (show h.next < h1.next by omega) n1.cells;refine zN ?_; (repeat refine zS ?_);refine W_cut (fun T h4 => BegS h h4 T h.next h1.next h2.next b o avail w hh ⟨w, hh, 0, 0⟩) ?_ ?_
 ·refine zR ?_
  iterate 6 (first | (refine VX (Gd1 @c2.row) ?_) | (refine VO ?_))
  refine zV (v := .agg [.p b o, .i .i64 w, .i .i64 hh, .i .i64 0, .i .i64 0]) (by rw [ex_build]; exact bd_of (by kernel_rfl : placesOf Try.prog 83 = some [(0, 1), (1, 1), (2, 1), (3, 1), (4, 1)]) zb83 (by simp only [evParts, go_sem, ↓reduceIte, Nat.reduceEqDiff]; rfl) rfl) Dc ?_;refine WO_alloc zb83 rfl n2.ok Dc fun h3 n3 => ?_;have e3 := n3.next;refine WO_storeA (ee) (ee) sz83 rfl (by simp) n3.cells n3.may (by simp [V.cells]) fun h4 p4 => ?_;have c4 := p4.cells;simp only [V.cells, List.take_succ_cons, List.take_zero, List.drop_succ_cons, List.drop_zero, List.nil_append, List.cons_append, List.append_nil, Nat.reduceAdd, Nat.zero_add] at c4;have e4 := p4.next;have c2b := (n3.up.trans (p4.up.mono fun b hb => by omega)).cells (show h.next < h2.next by omega) c2;exact zN ⟨rfl, gs, gs, gs, c2b, c4, ⟨_, rfl, (n3.up.trans (p4.up.mono fun b hb => by omega)).cells (show h1.next < h2.next by omega) n2.cells⟩, p4.may, by rw [p4.up.may, n3.up.may]; exact n2.may, (n1.up.trans (n2.up.mono fun b hb => by omega)).trans ((n3.up.mono fun b hb => by omega).trans (p4.up.mono fun b hb => by omega)), p4.ok n3.ok, by omega⟩
 have hqa : h.next < h1.next ∧ h1.next < h2.next := by omega
 generalize hQa : h.next = qa at hqa ⊢;generalize h1.next = qr at hqa ⊢;generalize h2.next = qf at hqa ⊢;have hn' : n0 ≤ h.next := hn;clear n1 n2 c2 e1 e2;rintro T h4 c0;refine zS ?_;refine W_cut (fun T h5 => BegS h h5 T qa qr qf b o avail w hh ⟨begW vals avail w, hh, 0, 0⟩) ?_ ?_
 ·have k4 : Vals h4 n0 b o vals := k.up c0.up fun q hq => by omega
  have t1 := c0.t1;have t2 := c0.t2;have t3 := c0.t3;have ca := c0.ca;have cf := c0.cf;unfold Frm.cells at cf
  (repeat refine zS ?_); refine zR ?_
  (refine VX (Ga1 @t3) ?_)
  (refine VX (Gd2 @cf.row @t3) ?_)
  (refine VX (zB (Gs1 @t3) (Gs1 @t3) in_eql) ?_)
  refine zN ?_; (repeat refine zS ?_);refine zC (ee) (fun hc => ?_) (fun hc => W_skip ?_)
  ·have hc : w = -1 := by simpa using hc
   (repeat refine zS ?_); refine zR ?_
   (refine VX (Ga1 @t1) ?_)
   (refine VX (Gd2 @ca.row @t1) ?_)
   refine WO_fn (ee) (by simp) Dc ((v_fn hs k4 (i := 3) (vok.at Om).1).mono ?_);rintro _ h4 ⟨rfl, rfl⟩;refine VO ?_;refine zN ?_;refine zS ?_;refine W_cut (fun T h5 => ∃ n, T.get 4 = some (.one (.i .i64 n)) ∧ n = (if vAt vals 3 = -1 then withinI avail (vAt vals 12) else vAt vals 3) ∧ BegS h h5 T qa qr qf b o avail w hh ⟨w, hh, 0, 0⟩) ?_ ?_
   ·(repeat refine zS ?_); refine zR ?_
    refine VO ?_
    (refine VX (zB ee ee in_eql) ?_)
    refine zN ?_; (repeat refine zS ?_);refine zC (ee) (fun hc2 => ?_) (fun hc2 => W_skip ?_)
    ·have hc2 : vAt vals 3 = -1 := by simpa using hc2
     refine W_drawn dr45_5 (by kernel_rfl) c0.ok.floor ?_;unfold dr45_5
     iterate 4 (first | (refine IL rfl zF (Gs1 @t1) (Gd1 @ca.row) ?_) | (refine IX rfl (Ga1 @t1) ?_))
     refine WI_call rfl rfl (doCall_fn (ee) (by simp)) Dc ((v_fn hs (k4.fenced fun q hq => OffA) (i := 12) (vok.at Om).1).mono ?_);rintro _ _ ⟨rfl, rfl⟩;simp only [back_fenced, fenced_next];refine WI_call rfl rfl (doCall_fn (ee) (by simp)) Dc ((within2_fn hs (c0.ok.fenced (fun b hb => OffA) (fun b hb => OffA) c0.ok.floor) (co_nn q.a) vm).mono ?_);rintro _ h6 ⟨rfl, u6, o6⟩;obtain ⟨u7, o7, _, _⟩ := back_of c0.ok u6
     (refine zO rfl ?_)
     refine WI_nil ⟨by trivial, _, gs, by rw [if_pos hc2], (c0.upLt u7 o7).same gs gs gs⟩
    ·have hc2 : ¬ vAt vals 3 = -1 := by simpa using hc2
     exact ⟨rfl, _, gs, by rw [if_neg hc2], c0.same gs gs gs⟩
   clear t1 t2 t3 ca cf k4;rintro T h5 ⟨n, t4, hnv, c5⟩;have k5 : Vals h5 n0 b o vals := k.up c5.up fun q hq => by omega
   have t1 := c5.t1;have t2 := c5.t2;have t3 := c5.t3;have ca := c5.ca;have cf := c5.cf;have hlt := c5.lt;unfold Frm.cells at cf
   (repeat refine zS ?_); refine zR ?_
   iterate 3 (first | (refine VX (Gd3 @ca.row @t1 @t4) ?_) | (refine VX (Ga2 @t1 @t4) ?_))
   refine WO_fn (Gt1 @t4) (by simp) Dc ((wide_fn hs k5 vok).mono ?_);rintro _ h5 ⟨rfl, rfl⟩
   (refine VX (Ga1 @t3) ?_)
   refine WO_store1 (ee) (ee) sz3 cf c5.mf (by simp) fun h6 p6 => ?_;refine zN ⟨rfl, ?_⟩;have e : begW vals avail w = wideI vals n := by unfold begW; rw [if_pos hc, hnv]
   rw [e];exact c5.step p6 gs gs gs
  ·have hc : ¬ w = -1 := by simpa using hc
   refine ⟨rfl, ?_⟩;unfold begW;rw [if_neg hc];exact c0.same gs gs gs
 clear c0;rintro T h4 c0;refine zS ?_;refine W_cut (fun T h5 => BegS h h5 T qa qr qf b o avail w hh ⟨begW vals avail w, begH vals hh, 0, 0⟩) ?_ ?_
 ·have k4 : Vals h4 n0 b o vals := k.up c0.up fun q hq => by omega
  have t1 := c0.t1;have t2 := c0.t2;have t3 := c0.t3;have ca := c0.ca;have cf := c0.cf;have hlt := c0.lt;unfold Frm.cells at cf
  (repeat refine zS ?_); refine zR ?_
  (refine VX (Ga1 @t1) ?_)
  (refine VX (Gd2 @ca.row @t1) ?_)
  refine WO_fn (ee) (by simp) Dc ((v_fn hs k4 (i := 4) (vok.at Om).1).mono ?_);rintro _ h4 ⟨rfl, rfl⟩;refine VO ?_;refine zN ?_;refine zS ?_;refine W_cut (fun T h5 => h5 = h4 ∧ T.get 1 = some (.one (.p qa 0)) ∧ T.get 2 = some (.one (.p qr 0)) ∧ T.get 3 = some (.one (.p qf 0)) ∧ T.get 5 = some (.one (.i .i64 (vAt vals 4))) ∧ T.get 41 = some (.one (.b (decide (hh = -1) && !decide (vAt vals 4 = -1))))) ?_ ?_
  ·refine zR ?_
   (refine VX (Ga1 @t3) ?_)
   (refine VX (Gd2 @cf.row @t3) ?_)
   (refine VX (zB (Gs1 @t3) (Gs1 @t3) in_eql) ?_)
   (refine VX (Ga1 @t3) ?_)
   refine WO_grd rfl rfl (Gs1 @t3) (fun c1 => ?_) (fun c1 => ?_)
   ·(refine VG (zT rfl rfl (Gs2 @t3 @c1) rfl) (Ga2 @t3 @c1) ?_)
    (refine VG (zT rfl rfl (Gs2 @t3 @c1) rfl) (zB (Gs2 @t3 @c1) (Gs2 @t3 @c1) in_neq) ?_)
    (refine VX (Ga2 @t3 @c1) ?_)
    refine zN ⟨rfl, rfl, (Gu2 @t1 @c1), (Gu2 @t2 @c1), (Gu2 @t3 @c1), (Gu1 @c1), ?_⟩;simp only [go_sem, ↓reduceIte, Nat.reduceEqDiff, c1];simp [c1]
   ·refine VN (zG rfl rfl (Gs2 @t3 @c1) rfl) ?_;refine VN (zG rfl rfl (Gs2 @t3 @c1) rfl) ?_
    (refine VX (Ga2 @t3 @c1) ?_)
    refine zN ⟨rfl, rfl, (Gu2 @t1 @c1), (Gu2 @t2 @c1), (Gu2 @t3 @c1), (Gu1 @c1), ?_⟩;simp only [go_sem, ↓reduceIte, Nat.reduceEqDiff, c1];simp [c1]
  clear t1 t2 t3;rintro T h5 ⟨rfl, t1, t2, t3, t5, t41⟩;refine zC (Gt1 @t41) (fun hc => ?_) (fun hc => W_skip ?_)
  ·have hc : hh = -1 ∧ vAt vals 4 ≠ -1 := by simpa using hc
   refine zR ?_
   iterate 3 (first | (refine VX (Gd3 @ca.row @t1 @t5) ?_) | (refine VX (Ga2 @t1 @t5) ?_))
   refine WO_fn (ee) (by simp) Dc ((high_fn hs k4 vok).mono ?_);rintro _ h5 ⟨rfl, rfl⟩
   (refine VX (Ga1 @t3) ?_)
   refine WO_store1 (ee) (ee) sz3 cf c0.mf (by simp) fun h6 p6 => ?_;refine zN ⟨rfl, ?_⟩;have e : begH vals hh = highI vals (vAt vals 4) := by unfold begH; rw [if_pos hc]
   rw [e];exact ⟨gt t1, gt t2, gt t3, p6.up.cells (show qa ≠ qf by omega) c0.ca, p6.cells, by obtain ⟨xs, x1, x2⟩ := c0.cr; exact ⟨xs, x1, p6.up.cells (show qr ≠ qf by omega) x2⟩, p6.may, by rw [p6.up.may]; exact c0.mr, c0.up.trans (p6.up.mono fun b hb => by omega), p6.ok c0.ok, by rw [p6.next]; exact hlt⟩
  ·have hc : ¬ (hh = -1 ∧ vAt vals 4 ≠ -1) := by simpa using hc
   refine ⟨rfl, ?_⟩;have e : begH vals hh = hh := by unfold begH; rw [if_neg hc]
   rw [e];exact ⟨t1, t2, t3, c0.ca, c0.cf, c0.cr, c0.mf, c0.mr, c0.up, c0.ok, c0.lt⟩
 clear c0;rintro T h4 c0;have hw' := begW_nn vok q;have hh' := begH_nn vok q;generalize hW : begW vals avail w = w1 at *;generalize hH : begH vals hh = h1' at *;refine zS ?_;refine W_cut (fun T h5 => BegS h h5 T qa qr qf b o avail w hh ⟨w1, h1', withinI w1 (vAt vals 13), 0⟩) ?_ ?_
 ·have k4 : Vals h4 n0 b o vals := k.up c0.up fun q hq => by omega
  have t1 := c0.t1;have t2 := c0.t2;have t3 := c0.t3;have ca := c0.ca;have cf := c0.cf;have hlt := c0.lt;have hun := c0.up.next;unfold Frm.cells at cf;refine W_drawn dr45_10 (by kernel_rfl) c0.ok.floor ?_;unfold dr45_10
  iterate 4 (first | (refine IL rfl zF (Gs2 @t1 @t3) (Gd2 @ca.row @cf.row) ?_) | (refine IX rfl (Ga2 @t1 @t3) ?_))
  refine WI_call rfl rfl (doCall_fn (ee) (by simp)) Dc ((v_fn hs (k4.fenced fun q hq => OffA) (i := 13) (vok.at Om).1).mono ?_);rintro _ _ ⟨rfl, rfl⟩;simp only [back_fenced, fenced_next];refine WI_call rfl rfl (doCall_fn (ee) (by simp)) Dc ((within2_fn hs (c0.ok.fenced (fun b hb => OffA) (fun b hb => OffA) c0.ok.floor) (co_nn hw') vp).mono ?_);rintro _ h6 ⟨rfl, u6, o6⟩;obtain ⟨u7, o7, e7, e8⟩ := back_of c0.ok u6;have c7 := c0.upLt u7 o7;generalize h4.back h6 = h8 at *;have cf7 := c7.cf;unfold Frm.cells at cf7
  (refine IX rfl (Ga1 @t3) ?_)
  refine WI_store1 rfl (ee) (ee) sz3 cf7 c7.mf (by simp) OffA OffA (H.may_iff c7.mf).1.1 fun h9 p9 => ?_;exact WI_nil ⟨by trivial, c7.step p9 gs gs gs⟩
 clear c0;rintro T h4 c0;refine zS ?_;refine W_cut (fun T h5 => BegS h h5 T qa qr qf b o avail w hh ⟨w1, h1', withinI w1 (vAt vals 13), if h1' ≠ -1 then withinI h1' (vAt vals 13) else 0⟩) ?_ ?_
 ·have k4 : Vals h4 n0 b o vals := k.up c0.up fun q hq => by omega
  have t1 := c0.t1;have t2 := c0.t2;have t3 := c0.t3;have ca := c0.ca;have cf := c0.cf;have hlt := c0.lt;have hun := c0.up.next;unfold Frm.cells at cf
  (repeat refine zS ?_); refine zR ?_
  (refine VX (Ga1 @t3) ?_)
  (refine VX (Gd2 @cf.row @t3) ?_)
  (refine VX (zB (Gs1 @t3) (Gs1 @t3) in_neq) ?_)
  refine zN ?_; (repeat refine zS ?_);refine zC (ee) (fun hc => ?_) (fun hc => W_skip ?_)
  ·have hc : h1' ≠ -1 := by simpa using hc
   refine W_drawn dr45_12 (by kernel_rfl) c0.ok.floor ?_;unfold dr45_12
   iterate 4 (first | (refine IL rfl zF (Gs2 @t1 @t3) (Gd2 @ca.row @cf.row) ?_) | (refine IX rfl (Ga2 @t1 @t3) ?_))
   refine WI_call rfl rfl (doCall_fn (ee) (by simp)) Dc ((v_fn hs (k4.fenced fun q hq => OffA) (i := 13) (vok.at Om).1).mono ?_);rintro _ _ ⟨rfl, rfl⟩;simp only [back_fenced, fenced_next];refine WI_call rfl rfl (doCall_fn (ee) (by simp)) Dc ((within2_fn hs (c0.ok.fenced (fun b hb => OffA) (fun b hb => OffA) c0.ok.floor) (co_of hh') vp).mono ?_);rintro _ h6 ⟨rfl, u6, o6⟩;obtain ⟨u7, o7, e7, e8⟩ := back_of c0.ok u6;have c7 := c0.upLt u7 o7;generalize h4.back h6 = h8 at *;have cf7 := c7.cf;unfold Frm.cells at cf7
   (refine IX rfl (Ga1 @t3) ?_)
   refine WI_store1 rfl (ee) (ee) sz3 cf7 c7.mf (by simp) OffA OffA (H.may_iff c7.mf).1.1 fun h9 p9 => ?_;rw [if_pos hc];exact WI_nil ⟨by trivial, c7.step p9 gs gs gs⟩
  ·have hc : ¬ h1' ≠ -1 := by simpa using hc
   rw [if_neg hc];exact ⟨rfl, c0.same gs gs gs⟩
 clear c0;rintro T h4 c0;have t2 := c0.t2;have t3 := c0.t3;have cf := c0.cf;have hlt := c0.lt;obtain ⟨xs, x1, cr⟩ := c0.cr;unfold Frm.cells at cf
 (repeat refine zS ?_); refine zR ?_
 (refine VX (Gd2 @cf.row @t3) ?_)
 refine WO_storeA (Gt1 @t2) (ee) sz83 rfl (by simp) cr c0.mr (by simp; omega) fun h5 p5 => ?_;have c5 := (p5.whole (by rw [x1]; rfl)).cells;have r5 : h5.row qr 0 5 = some [.p b o, .i .i64 w1, .i .i64 h1', .i .i64 (withinI w1 (vAt vals 13)), .i .i64 (if h1' ≠ -1 then withinI h1' (vAt vals 13) else 0)] := c5.all;subst hQa;refine zN (W_ret ⟨.inr rfl, _, by (simp only [resultB, resB, parts, V.part, Sl.get_set', ↓reduceIte, Nat.reduceEqDiff, t2, LD83, r5, aggR_some] <;> rfl), ?_, c0.up.trans (p5.up.mono fun b hb => by omega), p5.ok c0.ok⟩);unfold beginI Frm.cells;rw [hW, hH]
end Go.Ai
namespace Go.Ai
open Go.Proofs
section
variable {P : Program} {spec : CallF} {nt : Nat} {T : Sl} {h : H} {Q : Ex → Sl → H → Prop} {x : Operand} {a b : Code} {t : Bool}
theorem W_condT (hx : ev T x = some (.one (.b t))) (ht : t = true) (hw : W P spec nt a T h Q) : W P spec nt (.cond x a b) T h Q := zC hx (fun _ => hw) fun e => by rw [ht] at e; cases e
theorem W_condF (hx : ev T x = some (.one (.b t))) (ht : t = false) (hw : W P spec nt b T h Q) : W P spec nt (.cond x a b) T h Q := zC hx (fun e => by rw [ht] at e; cases e) fun _ => hw
end
theorem nineteen {i : Nat} (hi : i < 19) : i = 0 ∨ i = 1 ∨ i = 2 ∨ i = 3 ∨ i = 4 ∨ i = 5 ∨ i = 6 ∨ i = 7 ∨ i = 8 ∨ i = 9 ∨ i = 10 ∨ i = 11 ∨ i = 12 ∨ i = 13 ∨ i = 14 ∨ i = 15 ∨ i = 16 ∨ i = 17 ∨ i = 18 := by omega
theorem pl100 : placesOf Try.prog 100 = some [(0, 1), (1, 1), (2, 1), (3, 1)] := by kernel_rfl
theorem rule_fn {spec : CallF} (hs : SpecLay spec) {h : H} (ok : Ok h) {i : Nat} (hi : i < 19) :
  WF Try.prog spec 63 [.one (.i .i64 (i : Int))] h fun r h1 => (∃ c d, r = .agg [.i .i64 (loP i), .i .i64 (hiP i), c, d]) ∧ Up (· < h.next) h h1 ∧ Ok h1 := by
 refine WF_of Try.func63 rfl (hs.s _ _ _) (by rw [Try.ntmps63]; simp) (by rw [Try.ntmps63]; decide) ?_;rw [Try.ntmps63, Try.results63];simp only [Sl.setMany_cons, Sl.setMany_nil, Nat.zero_add, Nat.reduceAdd]
 (repeat refine zS ?_); refine zR ?_
 refine WO_alloc zb100 rfl ok Dc fun h1 n1 => ?_;refine zN ?_; (repeat refine zS ?_);refine zR ?_;refine VO ?_;refine zN ?_;rcases nineteen hi with rfl | rfl | rfl | rfl | rfl | rfl | rfl | rfl | rfl | rfl | rfl | rfl | rfl | rfl | rfl | rfl | rfl | rfl | rfl
 all_goals
  repeat (first
   | refine zS ?_
   | refine zK ?_
   | (refine zR (VX (zB ee ee in_eql) (VO (zN ?_))))
   | refine W_condT ee rfl ?_
   | refine W_condF ee rfl ?_
   | refine W_skip ?_)
  refine zR (zV (v := .agg _) (by rw [ex_build]; exact bd_of pl100 zb100 (by simp only [evParts, go_sem, ↓reduceIte, Nat.reduceEqDiff]; rfl) rfl) Dc ?_);refine WO_storeA ee ee sz100 rfl (by exact fun e => nomatch (show 4 = 0 from congrArg List.length e)) n1.cells n1.may (by exact Nat.le_refl 4) fun h2 p2 => ?_;have r2 : h2.row h.next 0 4 = some [_, _, _, _] := (p2.whole rfl).cells.all;exact zN (W_ret ⟨.inr rfl, _, by (simp only [resultB, resB, parts, V.part, Sl.get_set', ↓reduceIte, Nat.reduceEqDiff, LD100, r2, aggR_some] <;> rfl), ⟨_, _, rfl⟩, n1.up.trans (p2.up.mono fun q hq => by omega), p2.ok n1.ok⟩)
end Go.Ai
namespace Go.Ai
open Go.Proofs
theorem is_fn {spec : CallF} (hs : SpecLay spec) {h : H} {p : Int} :
  WF Try.prog spec 62 [.one (.i .i64 p)] h fun r h1 => r = .one (.b (decide (0 ≤ p ∧ p < 19))) ∧ h1 = h := by
 refine WF_of Try.func62 rfl (hs.s _ _ _) (by rw [Try.ntmps62]; simp) (by rw [Try.ntmps62]; decide) ?_;rw [Try.ntmps62, Try.results62];simp only [Sl.setMany_cons, Sl.setMany_nil, Nat.zero_add, Nat.reduceAdd]
 (repeat refine zS ?_); refine zR ?_
 refine VO ?_;refine zN ?_; (repeat refine zS ?_);refine zR ?_;refine VO ?_
 (refine VX (zB ee ee in_geq) ?_)
 refine VO ?_;refine WO_grd rfl rfl Gs0 (fun c1 => ?_) (fun c1 => ?_)
 ·(refine VG (zT rfl rfl (Gs1 @c1) rfl) (Ga1 @c1) ?_)
  (refine VG (zT rfl rfl (Gs1 @c1) rfl) (zB (Gs1 @c1) (Gs1 @c1) zL) ?_)
  (refine VX (Ga1 @c1) ?_)
  (refine VX (Ga1 @c1) ?_)
  refine zN (W_ret ⟨.inr rfl, _, by (simp only [resultB, resB, parts, V.part, Sl.get_set', ↓reduceIte, Nat.reduceEqDiff, c1] <;> rfl), ?_, rfl⟩);refine congrArg (fun t => V.one (.b t)) ?_;simp at c1;rw [Bool.eq_iff_iff];simp;omega
 ·refine VN (zG rfl rfl (Gs1 @c1) rfl) ?_;refine VN (zG rfl rfl (Gs1 @c1) rfl) ?_
  (refine VX (Ga1 @c1) ?_)
  (refine VX (Ga1 @c1) ?_)
  refine zN (W_ret ⟨.inr rfl, _, by (simp only [resultB, resB, parts, V.part, Sl.get_set', ↓reduceIte, Nat.reduceEqDiff, c1] <;> rfl), ?_, rfl⟩);refine congrArg (fun t => V.one (.b t)) ?_;simp at c1;rw [Bool.eq_iff_iff];simp;omega
theorem lplain_fn {spec : CallF} (hs : SpecLay spec) {h : H} {p : Int} :
  WF Try.prog spec 27 [.one (.i .i64 p)] h fun r h1 => r = .one (.b (decide (0 ≤ p ∧ p ≤ 1099511627776))) ∧ h1 = h := by
 refine WF_of Try.func27 rfl (hs.s _ _ _) (by rw [Try.ntmps27]; simp) (by rw [Try.ntmps27]; decide) ?_;rw [Try.ntmps27, Try.results27];simp only [Sl.setMany_cons, Sl.setMany_nil, Nat.zero_add, Nat.reduceAdd]
 (repeat refine zS ?_); refine zR ?_
 refine VO ?_;refine zN ?_; (repeat refine zS ?_);refine zR ?_;refine VO ?_
 (refine VX (zB ee ee in_geq) ?_)
 refine VO ?_;refine WO_grd rfl rfl Gs0 (fun c1 => ?_) (fun c1 => ?_)
 ·(refine VG (zT rfl rfl (Gs1 @c1) rfl) (Ga1 @c1) ?_)
  (refine VG (zT rfl rfl (Gs1 @c1) rfl) (zB (Gs1 @c1) (Gs1 @c1) in_leq) ?_)
  (refine VX (Ga1 @c1) ?_)
  (refine VX (Ga1 @c1) ?_)
  refine zN (W_ret ⟨.inr rfl, _, by (simp only [resultB, resB, parts, V.part, Sl.get_set', ↓reduceIte, Nat.reduceEqDiff, c1] <;> rfl), ?_, rfl⟩);refine congrArg (fun t => V.one (.b t)) ?_;simp at c1;rw [Bool.eq_iff_iff];simp;omega
 ·refine VN (zG rfl rfl (Gs1 @c1) rfl) ?_;refine VN (zG rfl rfl (Gs1 @c1) rfl) ?_
  (refine VX (Ga1 @c1) ?_)
  (refine VX (Ga1 @c1) ?_)
  refine zN (W_ret ⟨.inr rfl, _, by (simp only [resultB, resB, parts, V.part, Sl.get_set', ↓reduceIte, Nat.reduceEqDiff, c1] <;> rfl), ?_, rfl⟩);refine congrArg (fun t => V.one (.b t)) ?_;simp at c1;rw [Bool.eq_iff_iff];simp;omega
theorem FO100_0 {h : H} {a : S} {r : List S} : doField Try.prog h 100 0 (some (.agg (a :: r))) = some (.val (.one a) h) := fo_one fo100_0 rfl
theorem FO100_1 {h : H} {a b : S} {r : List S} : doField Try.prog h 100 1 (some (.agg (a :: b :: r))) = some (.val (.one b) h) := fo_one fo100_1 rfl
def mayP (i : Nat) (v : Int) : Bool := decide (i < 19) && decide (loP i ≤ v) && decide (v ≤ hiP i)
theorem mayP_fn {spec : CallF} (hs : SpecLay spec) {h : H} (ok : Ok h) {i : Nat} {v : Int} :
  WF Try.prog spec 53 [.one (.i .i64 (i : Int)), .one (.i .i64 v)] h fun r h1 => r = .one (.b (mayP i v)) ∧ Up (· < h.next) h h1 ∧ Ok h1 := by
 refine WF_of Try.func53 rfl (hs.s _ _ _) (by rw [Try.ntmps53]; simp) (by rw [Try.ntmps53]; decide) ?_;rw [Try.ntmps53, Try.results53];simp only [Sl.setMany_cons, Sl.setMany_nil, Nat.zero_add, Nat.reduceAdd]
 (repeat refine zS ?_); refine zR ?_
 refine VO ?_;refine zN ?_; (repeat refine zS ?_);refine zR ?_;refine VO ?_;refine WO_fn (ee) (by simp) Dc ((is_fn hs).mono ?_);rintro _ h ⟨rfl, rfl⟩
 by_cases hi : i < 19
 ·rw [decide_eq_true (show 0 ≤ (i : Int) ∧ (i : Int) < 19 by omega)]
  iterate 3 (first | (refine VN (zG rfl rfl Gs0 rfl) ?_) | (refine VG (zT rfl rfl Gs0 rfl) Ga0 ?_) | (refine VO ?_))
  refine WO_fnG (zT rfl rfl Gs0 rfl) (ee) (by simp) Dc ((rule_fn hs ok hi).mono ?_);rintro _ h1 ⟨⟨c1, d1, rfl⟩, u1, o1⟩
  by_cases h1v : loP i ≤ v
  ·have d2 : decide (v < loP i) = false := decide_eq_false Om
   iterate 6 (first | (refine VG (zT rfl rfl (Gs3 @FO100_0 @d2 @Bool.not_false) rfl) (zB (Gs3 @FO100_0 @d2 @Bool.not_false) (Gs3 @FO100_0 @d2 @Bool.not_false) in_geq) ?_) | (refine VN (zG rfl rfl (Gs3 @FO100_0 @d2 @Bool.not_false) rfl) ?_) | (refine VG (zT rfl rfl (Gs3 @FO100_0 @d2 @Bool.not_false) rfl) (Gd3 @FO100_0 @d2 @Bool.not_false) ?_) | (refine VG (zT rfl rfl (Gs3 @FO100_0 @d2 @Bool.not_false) rfl) (Ga3 @FO100_0 @d2 @Bool.not_false) ?_) | (refine VX (Ga3 @FO100_0 @d2 @Bool.not_false) ?_))
   refine WO_fnG (zT rfl rfl (Gs2 @d2 @Bool.not_false) rfl) (ee) (by simp) Dc ((rule_fn hs o1 hi).mono ?_);rintro _ h2 ⟨⟨c2, d2', rfl⟩, u2, o2⟩;have un := u1.next
   iterate 4 (first | (refine VG (zT rfl rfl (Gs3 @FO100_1 @d2 @Bool.not_false) rfl) (zB (Gs3 @FO100_1 @d2 @Bool.not_false) (Gs3 @FO100_1 @d2 @Bool.not_false) in_leq) ?_) | (refine VN (zG rfl rfl (Gs3 @FO100_1 @d2 @Bool.not_false) rfl) ?_) | (refine VG (zT rfl rfl (Gs3 @FO100_1 @d2 @Bool.not_false) rfl) (Gd3 @FO100_1 @d2 @Bool.not_false) ?_) | (refine VX (Ga3 @FO100_1 @d2 @Bool.not_false) ?_))
   refine zN (W_ret ⟨.inr rfl, _, by (simp only [resultB, resB, parts, V.part, Sl.get_set', ↓reduceIte, Nat.reduceEqDiff, d2, Bool.not_false] <;> rfl), ?_, u1.trans (u2.mono fun q hq => by omega), o2⟩);unfold mayP;refine congrArg (fun t => V.one (.b t)) ?_;rw [Bool.eq_iff_iff];simp [hi, h1v]
  ·have d2 : decide (v < loP i) = true := decide_eq_true Om
   iterate 6 (first | (refine VG (zT rfl rfl (Gs3 @FO100_0 @d2 @Bool.not_true) rfl) (zB (Gs3 @FO100_0 @d2 @Bool.not_true) (Gs3 @FO100_0 @d2 @Bool.not_true) in_geq) ?_) | (refine VN (zG rfl rfl (Gs3 @FO100_0 @d2 @Bool.not_true) rfl) ?_) | (refine VG (zT rfl rfl (Gs3 @FO100_0 @d2 @Bool.not_true) rfl) (Gd3 @FO100_0 @d2 @Bool.not_true) ?_) | (refine VG (zT rfl rfl (Gs3 @FO100_0 @d2 @Bool.not_true) rfl) (Ga3 @FO100_0 @d2 @Bool.not_true) ?_) | (refine VX (Ga3 @FO100_0 @d2 @Bool.not_true) ?_))
   refine WO_notG (zG rfl rfl (Gs2 @d2 @Bool.not_true) rfl) Dc ?_
   iterate 4 (first | (refine VG (zT rfl rfl (Gs3 @FO100_1 @d2 @Bool.not_true) rfl) (zB (Gs3 @FO100_1 @d2 @Bool.not_true) (Gs3 @FO100_1 @d2 @Bool.not_true) in_leq) ?_) | (refine VN (zG rfl rfl (Gs3 @FO100_1 @d2 @Bool.not_true) rfl) ?_) | (refine VG (zT rfl rfl (Gs3 @FO100_1 @d2 @Bool.not_true) rfl) (Gd3 @FO100_1 @d2 @Bool.not_true) ?_) | (refine VX (Ga3 @FO100_1 @d2 @Bool.not_true) ?_))
   refine zN (W_ret ⟨.inr rfl, _, by (simp only [resultB, resB, parts, V.part, Sl.get_set', ↓reduceIte, Nat.reduceEqDiff, d2, Bool.not_true] <;> rfl), ?_, u1, o1⟩);unfold mayP;simp [hi, h1v]
 ·rw [decide_eq_false (show ¬ (0 ≤ (i : Int) ∧ (i : Int) < 19) by omega)]
  iterate 3 (first | (refine VN (zG rfl rfl Gs0 rfl) ?_) | (refine VG (zT rfl rfl Gs0 rfl) Ga0 ?_) | (refine VO ?_))
  refine WO_notG (zG rfl rfl Gs0 rfl) Dc ?_
  iterate 6 (first | (refine VG (zT rfl rfl Gs0 rfl) (zB ee ee in_geq) ?_) | (refine VN (zG rfl rfl Gs0 rfl) ?_) | (refine VG (zT rfl rfl Gs0 rfl) Gd0 ?_) | (refine VG (zT rfl rfl Gs0 rfl) Ga0 ?_) | (refine VO ?_))
  refine WO_notG (zG rfl rfl Gs0 rfl) Dc ?_
  iterate 4 (first | (refine VG (zT rfl rfl Gs0 rfl) (zB ee ee in_leq) ?_) | (refine VN (zG rfl rfl Gs0 rfl) ?_) | (refine VG (zT rfl rfl Gs0 rfl) Gd0 ?_) | (refine VO ?_))
  refine zN (W_ret ⟨.inr rfl, _, RbA, ?_, .refl _ _, ok⟩);unfold mayP;simp [hi]
end Go.Ai
