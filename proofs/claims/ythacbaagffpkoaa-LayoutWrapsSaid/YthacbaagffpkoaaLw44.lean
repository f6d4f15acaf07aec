/-
LayoutWraps, part 44 of 48: FxLay5.
-/
import Derived.Test.YthacbaagffpkoaaLw43
set_option linter.unusedVariables false
set_option linter.unusedSimpArgs false
set_option maxRecDepth 100000
set_option maxHeartbeats 0
namespace Go.Ai
open Go.Proofs
section
variable {P : Program} {T : Sl} {h : H} {d : Option Tmp} {ty : TypeId} {ps : String} {af : Array Edge} {g : Option (Nat × Bool)}
theorem ex_remU {t t' : TypeId} {x y : Operand} {a c : Int} (hx : ev T x = some (.one (.i .u64 a))) (hy : ev T y = some (.one (.i .u64 c))) (hc : c ≠ 0) : execO P T h ⟨d, .binOp .rem t x y t', ty, ps, af, g⟩ = some (.val (.one (.i .u64 (a.tmod c))) h) := by
 refine ex_pure (v := .int .u64 (a.tmod c)) ?_ ?_ ?_ rfl
 ·show orPure P T h _ (doBin P h .rem t (ev T x) (ev T y)) = _;rw [hx, hy]; rfl
 ·show allConc T [x, y] = true;simp only [allConc, evc, hx, hy]; rfl
 ·have hp : ∀ ρ : Operand → Value, ρ x = .int .u64 a → ρ y = .int .u64 c → prun P (execOp ρ ⟨d, .binOp .rem t x y t', ty, ps, af, g⟩) = some (.value (.int .u64 (a.tmod c))) := by
   intro ρ h1 h2;simp [execOp, h1, h2, binOp, eqGuard, Op.intDiv, hc, Bind.bind, Pure.pure, Sem.bind, prun]
  exact hp _ (by simp only [evc, hx]; rfl) (by simp only [evc, hy]; rfl)
end
theorem wrapU (x : Int) : 0 ≤ IntKind.u64.wrap x := by
 simp only [IntKind.wrap, IntKind.bits, IntKind.signed];simp;omega
theorem wrapU_id {x : Int} (h0 : 0 ≤ x) (h1 : x < 9223372036854775808) : IntKind.u64.wrap x = x := by
 simp only [IntKind.wrap, IntKind.bits, IntKind.signed];simp;omega
theorem lawWithin_fn {spec : CallF} (hs : SpecLay spec) {h : H} {x n : Int} (hn : 0 < n ∧ n < 9223372036854775808) :
  WF Try.prog spec 18 [.one (.i .i64 x), .one (.i .i64 n)] h fun v h1 => (∃ m, v = .one (.i .i64 m) ∧ 0 ≤ m ∧ m < n) ∧ h1 = h := by
 refine WF_of Try.func18 rfl (hs.s _ _ _) (by rw [Try.ntmps18]; simp) (by rw [Try.ntmps18]; decide) ?_;rw [Try.ntmps18, Try.results18];simp only [Sl.setMany_cons, Sl.setMany_nil, Nat.zero_add, Nat.reduceAdd]
 (repeat refine zS ?_); refine zR ?_
 refine VO ?_;refine zN ?_; (repeat refine zS ?_);refine zR ?_;refine zV Gs0 Dc ?_;refine zV (ex_toU Try.underlying3 Try.underlying62 Gs0) Dc ?_;refine zV Gs0 Dc ?_;refine zV (ex_toU Try.underlying3 Try.underlying62 Gs0) Dc ?_;rw [wrapU_id Om hn.2];refine zV (ex_remU Gs0 Gs0 Om) Dc ?_;have h0 := wrapU x;have h1 : (IntKind.u64.wrap x).tmod n = IntKind.u64.wrap x % n := Int.tmod_eq_emod_of_nonneg h0;rw [h1];have h2 := Int.emod_nonneg (IntKind.u64.wrap x) (show n ≠ 0 by omega);have h3 := Int.emod_lt_of_pos (IntKind.u64.wrap x) hn.1;generalize IntKind.u64.wrap x % n = m at *;refine zV (ex_toI Try.underlying62 Try.underlying3 Gs0) Dc ?_;rw [zI Om Om];refine zV Gs0 Dc ?_;exact zN (W_ret ⟨.inr rfl, _, RbA, ⟨m, rfl, h2, h3⟩, rfl⟩)
theorem num_fn {spec : CallF} (hs : SpecLay spec) {h : H} {x : Int} :
  WF Try.prog spec 15 [.one (.i .i64 x)] h fun v h1 => v = .one (.i .i64 x) ∧ h1 = h := by
 refine WF_of Try.func15 rfl (hs.s _ _ _) (by rw [Try.ntmps15]; simp) (by rw [Try.ntmps15]; decide) ?_;rw [Try.ntmps15, Try.results15];simp only [Sl.setMany_cons, Sl.setMany_nil, Nat.zero_add, Nat.reduceAdd]
 (repeat refine zS ?_); refine zR ?_
 refine VO ?_;refine zN ?_; (repeat refine zS ?_);refine zR ?_
 iterate 2 (refine VO ?_)
 exact zN (W_ret ⟨.inr rfl, _, RbA, rfl, rfl⟩)
theorem refsat_fn {spec : CallF} (hs : SpecLay spec) {h : H} {x : Int} :
  WF Try.prog spec 51 [.one (.i .i64 x)] h fun v h1 => v = .one (.i .i64 (satI x)) ∧ h1 = h := by
 refine WF_of Try.func51 rfl (hs.s _ _ _) (by rw [Try.ntmps51]; simp) (by rw [Try.ntmps51]; decide) ?_;rw [Try.ntmps51, Try.results51];simp only [Sl.setMany_cons, Sl.setMany_nil, Nat.zero_add, Nat.reduceAdd]
 (repeat refine zS ?_); refine zR ?_
 refine VO ?_;refine zN ?_; (repeat refine zS ?_);refine zR ?_;refine VO ?_
 (refine VX (ex_min Gs0 Gs0) ?_)
 (refine VX (ex_max Gs0 Gs0) ?_)
 refine VO ?_;exact zN (W_ret ⟨.inr rfl, _, RbA, by unfold satI; congr 2; omega, rfl⟩)
theorem refadd_fn {spec : CallF} (hs : SpecLay spec) {h : H} {a b : Int} (ha : CO a) (hb : CO b) :
  WF Try.prog spec 42 [.one (.i .i64 a), .one (.i .i64 b)] h fun v h1 => v = .one (.i .i64 (satI (a + b))) ∧ h1 = h := by
 unfold CO at ha hb;refine WF_of Try.func42 rfl (hs.s _ _ _) (by rw [Try.ntmps42]; simp) (by rw [Try.ntmps42]; decide) ?_;rw [Try.ntmps42, Try.results42];simp only [Sl.setMany_cons, Sl.setMany_nil, Nat.zero_add, Nat.reduceAdd]
 (repeat refine zS ?_); refine zR ?_
 refine VO ?_;refine zN ?_; (repeat refine zS ?_);refine zR ?_
 iterate 2 (refine VO ?_)
 (refine VX (zB ee ee zA) ?_; (try rw [zI Om Om]))
 refine WO_fn (ee) (by simp) Dc ((refsat_fn hs).mono ?_);rintro _ h ⟨rfl, rfl⟩;refine VO ?_;exact zN (W_ret ⟨.inr rfl, _, RbA, rfl, rfl⟩)
theorem lineF_one {gap : Int} {l : List Int} {i : Nat} (hi : i ≤ l.length) : ((l.take i).foldl (lineF gap) (false, 0)).1 = decide (0 < i) := by
 cases i with
 | zero => rfl
 | succ i => rw [lineF_fst _ _ _ (fun e => by have := congrArg List.length e; simp only [List.length_take, List.length_nil] at this; omega)]; simp
theorem length_fn {spec : CallF} (hs : SpecLay spec) {h : H} {v : S} {l : List Int} {gap : Int} (hv : ValsS h h.next v l) (hn : l.length ≤ 1000) (hl : ∀ x ∈ l, CO x) (hg : CO gap) :
  WF Try.prog spec 32 [.one v, .one (.i .i64 gap)] h fun r h1 => r = .one (.i .i64 (sumI l gap)) ∧ h1 = h := by
 refine WF_of Try.func32 rfl (hs.s _ _ _) (by rw [Try.ntmps32]; simp) (by rw [Try.ntmps32]; decide) ?_;rw [Try.ntmps32, Try.results32];simp only [Sl.setMany_cons, Sl.setMany_nil, Nat.zero_add, Nat.reduceAdd]
 (repeat refine zS ?_); refine zR ?_
 refine VO ?_;refine zN ?_; (repeat refine zS ?_);refine zR ?_;refine VO ?_;refine zN ?_; (repeat refine zS ?_);refine zR ?_;refine VO ?_;refine zN ?_; (repeat refine zS ?_);refine W_cut (fun T h1 => h1 = h ∧ T.get 5 = some (.one (.i .i64 (sumI l gap)))) ?_ ?_
 ·refine zK (W_rounds (fun j T h1 => ∃ i, j = l.length - i ∧ i ≤ l.length ∧ h1 = h ∧ T.get 0 = some (.one v) ∧ T.get 1 = some (.one (.i .i64 gap)) ∧ T.get 5 = some (.one (.i .i64 ((l.take i).foldl (lineF gap) (false, 0)).2)) ∧ T.get 6 = some (.one (.i .i64 (i : Int)))) ?_ l.length _ _ ?_);rotate_left
  ·exact ⟨0, rfl, Nat.zero_le _, rfl, gs, gs, by (simp only [go_sem, ↓reduceIte, Nat.reduceEqDiff, List.take_zero, List.foldl_nil] <;> first | rfl | simp), gs⟩
  rintro j T h1 ⟨i, rfl, hi, rfl, t0, t1, t5, t6⟩
  (repeat refine zS ?_); refine zR ?_
  iterate 2 (refine VX (Ga2 @t0 @t6) ?_)
  refine zV (hv.len (Gt1 @t0)) Dc ?_
  (refine VX (zB ee ee zL) ?_)
  refine zN ?_; (repeat refine zS ?_);refine zC (ee) (fun hlt => W_skip ?_) (fun hge => W_exit ?_)
  ·have hi' : (i : Int) < (l.length : Int) := by simpa using hlt
   have hi' : i < l.length := by omega
   obtain ⟨x, hx⟩ : ∃ x, l[i]? = some x := ⟨_, List.getElem?_eq_getElem hi'⟩;have hxc := hl x (List.mem_of_getElem? hx);have hnc : CO ((l.take i).foldl (lineF gap) (false, 0)).2 := lineF_in (by simp);have h1s := lineF_one (gap := gap) (l := l) (i := i) hi;have hT := lineF_take (gap := gap) hx;generalize (l.take i).foldl (lineF gap) (false, 0) = p at *
   obtain ⟨vb, vo, vc, ex, hve, vl, vr⟩ : ∃ vb vo c ex, v = .sl vb vo l.length c 1 ex ∧ vb < h1.next ∧ ∀ k x, l[k]? = some x → h1.row vb (vo + k) 1 = some [.i .i64 x] := by
    rcases hv with ⟨e, _⟩ | w
    ·rw [e] at hi'; simp at hi'
    ·exact w
   have vr := vr i x hx;rw [hve] at t0
   repeat refine zS ?_
   refine W_cut (fun T h2 => h2 = h1 ∧ T.get 0 = some (.one v) ∧ T.get 1 = some (.one (.i .i64 gap)) ∧ T.get 5 = some (.one (.i .i64 ((l.take (i + 1)).foldl (lineF gap) (false, 0)).2)) ∧ T.get 6 = some (.one (.i .i64 (i : Int)))) ?_ ?_
   ·refine zK ?_;refine zS ?_;refine W_cut (fun T h2 => h2 = h1 ∧ T.get 0 = some (.one v) ∧ T.get 1 = some (.one (.i .i64 gap)) ∧ T.get 5 = some (.one (.i .i64 (if p.1 then satI (p.2 + gap) else p.2))) ∧ T.get 6 = some (.one (.i .i64 (i : Int)))) ?_ ?_
    ·(repeat refine zS ?_); refine zR ?_
     (refine VX (Ga1 @t6) ?_)
     (refine VX (zB (Gs1 @t6) (Gs1 @t6) in_gtr) ?_)
     refine zN ?_; (repeat refine zS ?_);refine zC (ee) (fun hc => ?_) (fun hc => W_skip ?_)
     ·have hc : (0 : Int) < (i : Int) := by simpa using hc
      have hc : 0 < i := by omega
      rw [h1s, decide_eq_true hc];refine zR ?_
      iterate 2 (refine VX (Ga2 @t1 @t5) ?_)
      refine WO_fn (ee) (by simp) Dc ((refadd_fn hs hnc hg).mono ?_);rintro _ h1 ⟨rfl, rfl⟩;refine VO ?_;exact zN ⟨rfl, rfl, (Gu2 @t0 @hve), gt t1, gs, gt t6⟩
     ·have hc : ¬ (0 : Int) < (i : Int) := by simpa using hc
      have hc : ¬ 0 < i := by omega
      rw [h1s, decide_eq_false hc];exact ⟨rfl, rfl, (Gu2 @t0 @hve), gt t1, gt t5, gt t6⟩
    clear t0 t1 t5 t6;rintro T h2 ⟨rfl, t0, t1, t5, t6⟩;rw [hve] at t0
    have hyc : CO (if p.1 then satI (p.2 + gap) else p.2) := by
     split
     ·exact satI_in _
     ·exact hnc
    refine zR ?_
    iterate 5 (first | (refine VX (Gd3 @t0 @t5 @t6) ?_) | (refine VX (Gd4 @vr @t0 @t5 @t6) ?_) | (refine VX (Ga3 @t0 @t5 @t6) ?_))
    refine WO_fn (ee) (by simp) Dc ((refadd_fn hs hyc hxc).mono ?_);rintro _ h2 ⟨rfl, rfl⟩;refine VO ?_;exact zN ⟨rfl, rfl, (Gu2 @t0 @hve), gt t1, by rw [hT]; (simp only [go_sem, ↓reduceIte, Nat.reduceEqDiff] <;> first | rfl | simp), gt t6⟩
   ·rintro T h2 ⟨rfl, t0, t1, t5, t6⟩;refine zR ?_
    iterate 3 (first | (refine VX (zB (Gs1 @t6) (Gs1 @t6) zA) ?_; (try rw [zI Om Om])) | (refine VX (Ga1 @t6) ?_))
    exact zN ⟨l.length - (i + 1), by omega, i + 1, rfl, hi', rfl, gt t0, gt t1, gt t5, gs⟩
  ·have hge2 : ¬ (i : Int) < (l.length : Int) := by simpa using hge
   have hiN : i = l.length := by omega
   rw [hiN, List.take_length] at t5;exact ⟨fun _ => ⟨rfl, rfl, t5⟩, fun hne => absurd rfl hne⟩
 rintro T h1 ⟨rfl, t5⟩
 (repeat refine zS ?_); refine zR ?_
 iterate 2 (refine VX (Ga1 @t5) ?_)
 exact zN (W_ret ⟨.inr rfl, _, RbA, rfl, rfl⟩)
def brkStep (gap room : Int) (l : List Int) (st : Nat × List Int) (i : Nat) : Nat × List Int := if st.1 < i ∧ room < sumI ((l.take (i + 1)).drop st.1) gap then (i, st.2 ++ [(i : Int) - (st.1 : Int)]) else st
def brkF (gap room : Int) (l : List Int) (i : Nat) : Nat × List Int := (List.range i).foldl (brkStep gap room l) (0, [])
theorem brkF_succ {gap room : Int} {l : List Int} {i : Nat} : brkF gap room l (i + 1) = brkStep gap room l (brkF gap room l i) i := by
 unfold brkF; rw [List.range_succ, List.foldl_append]; rfl
theorem brkF_le {gap room : Int} {l : List Int} : ∀ i : Nat, (brkF gap room l i).1 ≤ i ∧ (brkF gap room l i).2.length ≤ i
 | 0 => ⟨Nat.le_refl _, Nat.le_refl _⟩
 | i + 1 => by
  have ih := brkF_le (gap := gap) (room := room) (l := l) i;rw [brkF_succ];unfold brkStep;split
  ·simp; omega
  ·omega
def brkI (gap room : Int) (l : List Int) : List Int := if 0 < l.length then (brkF gap room l l.length).2 ++ [(l.length : Int) - ((brkF gap room l l.length).1 : Int)] else (brkF gap room l l.length).2
theorem break_fn {spec : CallF} (hs : SpecLay spec) {h : H} {v : S} {n0 : Nat} {l : List Int} {gap room : Int} (ok : Ok h) (hv : Grown h v n0 3 1 (nums l)) (hn : l.length ≤ 1000) (hl : ∀ x ∈ l, CO x) (hg : CO gap) :
  WF Try.prog spec 21 [.one v, .one (.i .i64 gap), .one (.i .i64 room)] h fun r h1 => ∃ x, r = .one x ∧ Grown h1 x h.next 3 1 (nums (brkI gap room l)) ∧ Up (· < h.next) h h1 ∧ Ok h1 := by
 refine WF_of Try.func21 rfl (hs.s _ _ _) (by rw [Try.ntmps21]; simp) (by rw [Try.ntmps21]; decide) ?_;rw [Try.ntmps21, Try.results21];simp only [Sl.setMany_cons, Sl.setMany_nil, Nat.zero_add, Nat.reduceAdd]
 have hlen : ∀ {T : Sl} {h1 : H} {x : Operand} (hx : ev T x = some (.one v)) {d : Option Tmp} {ty : TypeId} {ps : String} {af : Array Edge} {g : Option (Nat × Bool)}, execO Try.prog T h1 ⟨d, .call ⟨.builtin .len, #[x], #[26]⟩, ty, ps, af, g⟩ = some (.val (.one (.i .i64 (l.length : Int))) h1) := fun {T h1 x} hx {d ty ps af g} => by
  have := hv.len1 (h1 := h1) el26 (T := T) (x := x) hx (d := d) (ty := ty) (ps := ps) (af := af) (g := g)
  rwa [nums_length] at this
 (repeat refine zS ?_); refine zR ?_
 refine VO ?_;refine zN ?_; (repeat refine zS ?_);refine zR ?_;refine VO ?_;refine zN ?_; (repeat refine zS ?_);refine zR ?_;refine VO ?_;refine zN ?_; (repeat refine zS ?_);refine zR ?_;refine VO ?_;refine zN ?_; (repeat refine zS ?_);refine W_cut (fun T h1 => ∃ x, Up (· < h.next) h h1 ∧ Ok h1 ∧ T.get 0 = some (.one v) ∧ T.get 7 = some (.one x) ∧ T.get 8 = some (.one (.i .i64 ((brkF gap room l l.length).1 : Int))) ∧ Grown h1 x h.next 3 1 (nums (brkF gap room l l.length).2)) ?_ ?_
 ·refine zK (W_rounds (fun j T h1 => ∃ i x, j = l.length - i ∧ i ≤ l.length ∧ Up (· < h.next) h h1 ∧ Ok h1 ∧ T.get 0 = some (.one v) ∧ T.get 1 = some (.one (.i .i64 gap)) ∧ T.get 2 = some (.one (.i .i64 room)) ∧ T.get 7 = some (.one x) ∧ T.get 8 = some (.one (.i .i64 ((brkF gap room l i).1 : Int))) ∧ T.get 9 = some (.one (.i .i64 (i : Int))) ∧ Grown h1 x h.next 3 1 (nums (brkF gap room l i).2)) ?_ l.length _ _ ?_);rotate_left
  ·exact ⟨0, .sl0, rfl, Nat.zero_le _, .refl _ _, ok, gs, gs, gs, gs, gs, gs, .nil⟩
  rintro j T h1 ⟨i, x, rfl, hi, u1, o1, t0, t1, t2, t7, t8, t9, g1⟩;have un1 := u1.next
  (repeat refine zS ?_); refine zR ?_
  iterate 2 (refine VX (Ga2 @t0 @t9) ?_)
  refine zV (hlen (ee)) Dc ?_
  (refine VX (zB ee ee zL) ?_)
  refine zN ?_; (repeat refine zS ?_);refine zC (ee) (fun hlt => W_skip ?_) (fun hge => W_exit ?_)
  ·have hi' : (i : Int) < (l.length : Int) := by simpa using hlt
   have hi' : i < l.length := by omega
   obtain ⟨vb, rfl, vc, vlt, vm⟩ := hv.whole Om;have hbl := brkF_le (gap := gap) (room := room) (l := l) i;have hbs := brkF_succ (gap := gap) (room := room) (l := l) (i := i);generalize brkF gap room l i = st at *;obtain ⟨fr, out⟩ := st;simp only at *
   repeat refine zS ?_
   refine W_cut (fun T h2 => ∃ x, Up (· < h.next) h h2 ∧ Ok h2 ∧ T.get 0 = some (.one (.sl vb 0 l.length l.length 1 false)) ∧ T.get 1 = some (.one (.i .i64 gap)) ∧ T.get 2 = some (.one (.i .i64 room)) ∧ T.get 7 = some (.one x) ∧ T.get 8 = some (.one (.i .i64 ((brkF gap room l (i + 1)).1 : Int))) ∧ T.get 9 = some (.one (.i .i64 (i : Int))) ∧ Grown h2 x h.next 3 1 (nums (brkF gap room l (i + 1)).2)) ?_ ?_
   ·refine zK ?_;refine zS ?_;refine W_cut (fun T h2 => h2 = h1 ∧ T.get 0 = some (.one (.sl vb 0 l.length l.length 1 false)) ∧ T.get 1 = some (.one (.i .i64 gap)) ∧ T.get 2 = some (.one (.i .i64 room)) ∧ T.get 7 = some (.one x) ∧ T.get 8 = some (.one (.i .i64 (fr : Int))) ∧ T.get 9 = some (.one (.i .i64 (i : Int))) ∧ T.get 29 = some (.one (.b (decide (fr < i ∧ room < sumI ((l.take (i + 1)).drop fr) gap))))) ?_ ?_
    ·refine zR ?_;have hia : (i : Int) + 1 = ((i + 1 : Nat) : Int) := rfl
     by_cases c1 : fr < i
     ·have d1 : decide ((fr : Int) < (i : Int)) = true := decide_eq_true Om
      iterate 8 (first | (refine VX (zB (Gs5 @t0 @t8 @t9 @d1 @hia) (Gs5 @t0 @t8 @t9 @d1 @hia) in_gtr) ?_) | (refine VG (zT rfl rfl (Gs5 @t0 @t8 @t9 @d1 @hia) rfl) (zB (Gs5 @t0 @t8 @t9 @d1 @hia) (Gs5 @t0 @t8 @t9 @d1 @hia) zA) ?_; (try rw [zI Om Om])) | (refine VN (zG rfl rfl (Gs5 @t0 @t8 @t9 @d1 @hia) rfl) ?_) | (refine VG (zT rfl rfl (Gs5 @t0 @t8 @t9 @d1 @hia) rfl) (Ga5 @t0 @t8 @t9 @d1 @hia) ?_) | (refine VX (Ga5 @t0 @t8 @t9 @d1 @hia) ?_))
      refine VG (zT rfl rfl (Gs1 @d1) rfl) (ex_sliceI (l := fr) (k := i + 1) el26 (ee) (Gt1 @t8) (Gt1 @hia) Om Om) ?_
      first | (refine VN (zG rfl rfl (Gs2 @t1 @d1) rfl) ?_) | (refine VG (zT rfl rfl (Gs2 @t1 @d1) rfl) (Ga2 @t1 @d1) ?_)
      have hvS : ValsS h1 h1.next (.sl vb (0 + fr * 1) (i + 1 - fr) (l.length - fr) 1 false) ((l.take (i + 1)).drop fr) := .inr ⟨vb, 0 + fr * 1, _, _, by rw [show ((l.take (i + 1)).drop fr).length = i + 1 - fr by simp; omega], by omega, fun k y hy => by
       have hy2 : l[fr + k]? = some y := by
        rw [List.getElem?_drop, List.getElem?_take] at hy;split at hy
        ·exact hy
        ·cases hy
       rw [u1.row (show vb < h.next by omega), show 0 + fr * 1 + k = fr + k by omega]
       exact vc.at1 (nums_get hy2)⟩
      refine WO_fnG (zT rfl rfl (Gs1 @d1) rfl) (Gt1 @d1) (by simp) Dc ((length_fn hs hvS (by simp; omega) (fun y hy => hl y (List.mem_of_mem_take (List.mem_of_mem_drop hy))) hg).mono ?_);rintro _ h1 ⟨rfl, rfl⟩
      iterate 3 (first | (refine VG (zT rfl rfl (Gs2 @t2 @d1) rfl) (zB (Gs2 @t2 @d1) (Gs2 @t2 @d1) in_gtr) ?_) | (refine VN (zG rfl rfl (Gs2 @t2 @d1) rfl) ?_) | (refine VG (zT rfl rfl (Gs2 @t2 @d1) rfl) (Ga2 @t2 @d1) ?_) | (refine VX (Ga2 @t2 @d1) ?_))
      refine zN ⟨rfl, rfl, gt t0, gt t1, gt t2, gt t7, gt t8, gt t9, ?_⟩;rw [show decide (fr < i ∧ room < sumI ((l.take (i + 1)).drop fr) gap) = decide (room < sumI ((l.take (i + 1)).drop fr) gap) by simp [c1]];simp only [go_sem, ↓reduceIte, Nat.reduceEqDiff, d1]
     ·have d1 : decide ((fr : Int) < (i : Int)) = false := decide_eq_false Om
      iterate 8 (first | (refine VX (zB (Gs5 @t0 @t8 @t9 @d1 @hia) (Gs5 @t0 @t8 @t9 @d1 @hia) in_gtr) ?_) | (refine VG (zT rfl rfl (Gs5 @t0 @t8 @t9 @d1 @hia) rfl) (zB (Gs5 @t0 @t8 @t9 @d1 @hia) (Gs5 @t0 @t8 @t9 @d1 @hia) zA) ?_; (try rw [zI Om Om])) | (refine VN (zG rfl rfl (Gs5 @t0 @t8 @t9 @d1 @hia) rfl) ?_) | (refine VG (zT rfl rfl (Gs5 @t0 @t8 @t9 @d1 @hia) rfl) (Ga5 @t0 @t8 @t9 @d1 @hia) ?_) | (refine VX (Ga5 @t0 @t8 @t9 @d1 @hia) ?_))
      refine VN (zG rfl rfl (Gs1 @d1) rfl) ?_
      first | (refine VN (zG rfl rfl (Gs2 @t1 @d1) rfl) ?_) | (refine VG (zT rfl rfl (Gs2 @t1 @d1) rfl) (Ga2 @t1 @d1) ?_)
      refine VN (zG rfl rfl (Gs1 @d1) rfl) ?_
      iterate 3 (first | (refine VG (zT rfl rfl (Gs2 @t2 @d1) rfl) (zB (Gs2 @t2 @d1) (Gs2 @t2 @d1) in_gtr) ?_) | (refine VN (zG rfl rfl (Gs2 @t2 @d1) rfl) ?_) | (refine VG (zT rfl rfl (Gs2 @t2 @d1) rfl) (Ga2 @t2 @d1) ?_) | (refine VX (Ga2 @t2 @d1) ?_))
      refine zN ⟨rfl, rfl, gt t0, gt t1, gt t2, gt t7, gt t8, gt t9, ?_⟩;rw [show decide (fr < i ∧ room < sumI ((l.take (i + 1)).drop fr) gap) = false by simp [c1]];simp only [go_sem, ↓reduceIte, Nat.reduceEqDiff, d1]
    clear t0 t1 t2 t7 t8 t9;rintro T h2 ⟨rfl, t0, t1, t2, t7, t8, t9, t29⟩;unfold brkStep at hbs;refine zC (Gt1 @t29) (fun hc => ?_) (fun hc => W_skip ?_)
    ·rw [if_pos (of_decide_eq_true hc)] at hbs;refine zS (zR ?_)
     iterate 3 (refine VX (Ga3 @t7 @t8 @t9) ?_)
     (refine VX (zB (Gs3 @t7 @t8 @t9) (Gs3 @t7 @t8 @t9) in_sub) ?_; (try rw [zI Om Om]))
     refine WO_bs1 el26 ⟨_, ze26⟩ (ee) o1 Dc fun h3 n3 => ?_;have e3 := n3.next;have g3 := g1.up n3.up (fun q hq => (g1.lt hq).2);refine WO_app (n0 := h.next) ap26_26 (Gt1 @t7) (ee) n3.cells rfl g3 n3.ok Om (m := out.length) (by rw [nums_length]; omega) Om Om Dc fun x4 h4 w4 => ?_;refine VO ?_;refine zN ?_; (repeat refine zS ?_);refine zR ?_
     iterate 2 (refine VX (Ga1 @t9) ?_)
     refine zN ⟨rfl, x4, u1.trans ((n3.up.mono fun q hq => by omega).trans (w4.up.mono fun q hq => ⟨by omega, fun e => by have := (g1.lt e).1; omega⟩)), w4.ok, gt t0, gt t1, gt t2, gs, by rw [hbs]; (simp only [go_sem, ↓reduceIte, Nat.reduceEqDiff] <;> first | rfl | simp), gt t9, ?_⟩;rw [hbs];exact w4.grown.same (by rw [nums_append]; rfl)
    ·rw [if_neg (of_decide_eq_false hc)] at hbs;exact ⟨rfl, x, u1, o1, t0, t1, t2, t7, by rw [hbs]; exact t8, t9, by rw [hbs]; exact g1⟩
   ·rintro T h2 ⟨x, u2, o2, t0, t1, t2, t7, t8, t9, g2⟩;refine zR ?_
    iterate 3 (first | (refine VX (zB (Gs1 @t9) (Gs1 @t9) zA) ?_; (try rw [zI Om Om])) | (refine VX (Ga1 @t9) ?_))
    exact zN ⟨l.length - (i + 1), by omega, i + 1, x, rfl, hi', u2, o2, gt t0, gt t1, gt t2, gt t7, gt t8, gs, g2⟩
  ·have hge2 : ¬ (i : Int) < (l.length : Int) := by simpa using hge
   have hiN : i = l.length := by omega
   rw [hiN] at t8 g1;exact ⟨fun _ => ⟨rfl, x, u1, o1, t0, t7, t8, g1⟩, fun hne => absurd rfl hne⟩
 rintro T h1 ⟨x, u1, o1, t0, t7, t8, g1⟩;have un1 := u1.next;have hbl := brkF_le (gap := gap) (room := room) (l := l) l.length;refine zS ?_;refine W_cut (fun T h2 => ∃ x, Up (· < h.next) h h2 ∧ Ok h2 ∧ T.get 7 = some (.one x) ∧ Grown h2 x h.next 3 1 (nums (brkI gap room l))) ?_ ?_
 ·(repeat refine zS ?_); refine zR ?_
  (refine VX (Ga1 @t0) ?_)
  refine zV (hlen (ee)) Dc ?_
  (refine VX (zB ee ee in_gtr) ?_)
  refine zN ?_; (repeat refine zS ?_);unfold brkI;refine zC (ee) (fun hc => ?_) (fun hc => W_skip ?_)
  ·have hc : (0 : Int) < (l.length : Int) := by simpa using hc
   rw [if_pos Om];generalize brkF gap room l l.length = st at *;obtain ⟨fr, out⟩ := st;simp only at *;refine zR ?_
   iterate 2 (refine VX (Ga2 @t0 @t7) ?_)
   refine zV (hlen (ee)) Dc ?_
   (refine VX (Ga1 @t8) ?_)
   (refine VX (zB (Gs1 @t8) (Gs1 @t8) in_sub) ?_; (try rw [zI Om Om]))
   refine WO_bs1 el26 ⟨_, ze26⟩ (ee) o1 Dc fun h3 n3 => ?_;have e3 := n3.next;have g3 := g1.up n3.up (fun q hq => (g1.lt hq).2);refine WO_app (n0 := h.next) ap26_26 (Gt1 @t7) (ee) n3.cells rfl g3 n3.ok Om (m := out.length) (by rw [nums_length]; omega) Om Om Dc fun x4 h4 w4 => ?_;refine VO ?_;refine zN ⟨rfl, x4, ?_, w4.ok, gs, w4.grown.same (by rw [nums_append]; rfl)⟩;exact u1.trans ((n3.up.mono fun q hq => by omega).trans (w4.up.mono fun q hq => ⟨by omega, fun e => by have := (g1.lt e).1; omega⟩))
  ·have hc : ¬ (0 : Int) < (l.length : Int) := by simpa using hc
   rw [if_neg Om];exact ⟨rfl, x, u1, o1, gt t7, g1⟩
 rintro T h2 ⟨x, u2, o2, t7, g2⟩
 (repeat refine zS ?_); refine zR ?_
 iterate 2 (refine VX (Ga1 @t7) ?_)
 exact zN (W_ret ⟨.inr rfl, _, RbA, x, rfl, g2, u2, o2⟩)
theorem fis_fn {spec : CallF} (hs : SpecLay spec) {h : H} {p : Int} :
  WF Try.prog spec 33 [.one (.i .i64 p)] h fun r h1 => r = .one (.b (decide (-1099511627776 ≤ p ∧ p ≤ 1099511627776))) ∧ h1 = h := by
 refine WF_of Try.func33 rfl (hs.s _ _ _) (by rw [Try.ntmps33]; simp) (by rw [Try.ntmps33]; decide) ?_;rw [Try.ntmps33, Try.results33];simp only [Sl.setMany_cons, Sl.setMany_nil, Nat.zero_add, Nat.reduceAdd]
 (repeat refine zS ?_); refine zR ?_
 refine VO ?_;refine zN ?_; (repeat refine zS ?_);refine zR ?_;refine VO ?_
 (refine VX (zB ee ee in_geq) ?_)
 refine VO ?_;refine WO_grd rfl rfl Gs0 (fun c1 => ?_) (fun c1 => ?_)
 ·(refine VG (zT rfl rfl (Gs1 @c1) rfl) (Ga1 @c1) ?_)
  (refine VG (zT rfl rfl (Gs1 @c1) rfl) (zB (Gs1 @c1) (Gs1 @c1) in_leq) ?_)
  (refine VX (Ga1 @c1) ?_)
  (refine VX (Ga1 @c1) ?_)
  refine zN (W_ret ⟨.inr rfl, _, by (simp only [resultB, resB, parts, V.part, Sl.get_set', ↓reduceIte, Nat.reduceEqDiff, c1] <;> rfl), ?_, rfl⟩);refine congrArg (fun t => V.one (.b t)) ?_;simp at c1;rw [Bool.eq_iff_iff];simp;omega
 ·refine VN (zG rfl rfl (Gs1 @c1) rfl) ?_;refine VN (zG rfl rfl (Gs1 @c1) rfl) ?_
  (refine VX (Ga1 @c1) ?_)
  (refine VX (Ga1 @c1) ?_)
  refine zN (W_ret ⟨.inr rfl, _, by (simp only [resultB, resB, parts, V.part, Sl.get_set', ↓reduceIte, Nat.reduceEqDiff, c1] <;> rfl), ?_, rfl⟩);refine congrArg (fun t => V.one (.b t)) ?_;simp at c1;rw [Bool.eq_iff_iff];simp;omega
theorem of_fn {spec : CallF} (hs : SpecLay spec) {h : H} {x y : Int} (hx : CO x) (hy : CO y) :
  WF Try.prog spec 22 [.one (.i .i64 x), .one (.i .i64 y)] h fun r h1 => r = .tup [(false, [ptS x y]), (false, [.i .i64 0])] ∧ h1 = h := by
 refine WF_of Try.func22 rfl (hs.s _ _ _) (by rw [Try.ntmps22]; simp) (by rw [Try.ntmps22]; decide) ?_;rw [Try.ntmps22, Try.results22];simp only [Sl.setMany_cons, Sl.setMany_nil, Nat.zero_add, Nat.reduceAdd]
 (repeat refine zS ?_); refine zR ?_
 iterate 2 (refine VO ?_)
 refine zN ?_; (repeat refine zS ?_);refine zR ?_;refine VO ?_;refine WO_fn (ee) (by simp) Dc ((fis_fn hs).mono ?_);rintro _ h ⟨rfl, rfl⟩;rw [decide_eq_true (show -1099511627776 ≤ x ∧ x ≤ 1099511627776 from hx)]
 (refine VX (ex_not Gs0) ?_)
 refine VO ?_
 first | (refine VN (zG rfl rfl Gs0 rfl) ?_) | (refine VG (zT rfl rfl Gs0 rfl) Ga0 ?_)
 refine WO_fnG (zT rfl rfl Gs0 rfl) (ee) (by simp) Dc ((fis_fn hs).mono ?_);rintro _ h ⟨rfl, rfl⟩;rw [decide_eq_true (show -1099511627776 ≤ y ∧ y ≤ 1099511627776 from hy)]
 first | (refine VN (zG rfl rfl Gs0 rfl) ?_) | (refine VG (zT rfl rfl Gs0 rfl) (ex_not Gs0) ?_)
 refine VO ?_;refine zN ?_; (repeat refine zS ?_);refine W_condF (ee) rfl (W_skip ?_)
 (repeat refine zS ?_); refine zR ?_
 iterate 2 (refine VO ?_)
 refine WO_fn (ee) (by simp) Dc ((make_fn hs).mono ?_);rintro _ h ⟨rfl, rfl⟩
 iterate 2 (refine VO ?_)
 exact zN (W_ret ⟨.inr rfl, _, RbA, rfl, rfl⟩)
end Go.Ai
