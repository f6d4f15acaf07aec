/-
LayoutWraps, part 43 of 48: FxLay3 FxLay4.
-/
import Derived.Test.YthacbaagffpkoaaLw42
set_option linter.unusedVariables false
set_option linter.unusedSimpArgs false
set_option maxRecDepth 100000
set_option maxHeartbeats 0
namespace Go.Ai
open Go.Proofs
def dfP : Nat → Int
 | 3 | 4 | 6 | 8 | 11 => -1
 | 10 => 1
 | 18 => 1024
 | _ => 0
theorem value_fn {spec : CallF} (hs : SpecLay spec) {h : H} {i : Nat} (hi : i < 19) :
  WF Try.prog spec 50 [.one (.i .i64 (i : Int))] h fun r h1 => (∃ a b c, r = .tup [(false, [a]), (false, [b]), (false, [.i .i64 (dfP i)]), (false, [c])]) ∧ h1 = h := by
 refine WF_of Try.func50 rfl (hs.s _ _ _) (by rw [Try.ntmps50]; simp) (by rw [Try.ntmps50]; decide) ?_;rw [Try.ntmps50, Try.results50];simp only [Sl.setMany_cons, Sl.setMany_nil, Nat.zero_add, Nat.reduceAdd]
 (repeat refine zS ?_); refine zR ?_
 iterate 4 (refine VO ?_)
 refine zN ?_; (repeat refine zS ?_);refine zR ?_;refine VO ?_;refine zN ?_;rcases nineteen hi with rfl | rfl | rfl | rfl | rfl | rfl | rfl | rfl | rfl | rfl | rfl | rfl | rfl | rfl | rfl | rfl | rfl | rfl | rfl
 all_goals
  repeat (first
   | refine zS ?_
   | refine zK ?_
   | (refine zR (VX (zB ee ee in_eql) (VO (zN ?_))))
   | refine W_condT ee rfl ?_
   | refine W_condF ee rfl ?_
   | refine W_skip ?_)
  refine zR ?_
  iterate 4 refine VO ?_
  exact zN (W_ret ⟨.inr rfl, _, RbA, ⟨_, _, _, rfl⟩, rfl⟩)
theorem default_fn {spec : CallF} (hs : SpecLay spec) {h : H} {i : Nat} (hi : i < 19) :
  WF Try.prog spec 41 [.one (.i .i64 (i : Int))] h fun r h1 => r = .one (.i .i64 (dfP i)) ∧ h1 = h := by
 refine WF_of Try.func41 rfl (hs.s _ _ _) (by rw [Try.ntmps41]; simp) (by rw [Try.ntmps41]; decide) ?_;rw [Try.ntmps41, Try.results41];simp only [Sl.setMany_cons, Sl.setMany_nil, Nat.zero_add, Nat.reduceAdd]
 (repeat refine zS ?_); refine zR ?_
 refine VO ?_;refine zN ?_; (repeat refine zS ?_);refine zR ?_;refine VO ?_;refine WO_fn (ee) (by simp) Dc ((value_fn hs hi).mono ?_);rintro _ h ⟨⟨a, b, c, rfl⟩, rfl⟩
 iterate 9 (refine VO ?_)
 refine zN ?_; (repeat refine zS ?_);refine zR ?_
 iterate 2 (refine VO ?_)
 exact zN (W_ret ⟨.inr rfl, _, RbA, rfl, rfl⟩)
def plainV : List Int := (List.range 19).map dfP
theorem pl28 : placesOf Try.prog 28 = some [(0, 1)] := by kernel_rfl
theorem range19_take {i : Nat} (hi : i < 19) : plainV.take (i + 1) = plainV.take i ++ [dfP i] := by
 have : (List.range 19)[i]? = some i := by rw [List.getElem?_range hi]
 exact map_take this
theorem rplain_fn {spec : CallF} (hs : SpecLay spec) {h : H} (ok : Ok h) :
  WF Try.prog spec 31 [] h fun r h1 => ∃ q, r = .agg [.sl q 0 19 19 1 false] ∧ Cells h1 q 3 (nums plainV) ∧ h1.may q = true ∧ h.next ≤ q ∧ q < h1.next ∧ Up (· < h.next) h h1 ∧ Ok h1 := by
 refine WF_of Try.func31 rfl (hs.s _ _ _) (by rw [Try.ntmps31]; simp) (by rw [Try.ntmps31]; decide) ?_;rw [Try.ntmps31, Try.results31];simp only [Sl.setMany_nil, Nat.zero_add, Nat.reduceAdd]
 (repeat refine zS ?_); refine zR ?_
 refine WO_alloc zb28 rfl ok Dc fun h1 n1 => ?_;have e1 := n1.next;refine zN ?_; (repeat refine zS ?_);refine zR ?_;refine zV (v := .agg [.sl0]) (by rw [ex_build]; exact bd_of pl28 zb28 (by simp only [evParts]; rfl) rfl) Dc ?_;refine WO_alloc zb28 rfl n1.ok Dc fun h2 n2 => ?_;have e2 := n2.next;refine WO_storeA (ee) (ee) sz28 rfl (by simp) n2.cells n2.may (by simp [V.cells]) fun h3 p3 => ?_;have p3 : Put h2 h3 h1.next 28 [.sl0] := p3.whole rfl;have e3 := p3.next;have cr3 := p3.up.cells (show h.next ≠ h1.next by omega) (n2.up.cells (show h.next < h1.next by omega) n1.cells);have mr3 : h3.may h.next = true := by rw [p3.up.may, n2.up.may]; exact n1.may
 have u3 : Up (· < h.next) h h3 := n1.up.trans ((n2.up.mono fun q hq => by omega).trans (p3.up.mono fun q hq => by omega));refine zN ?_; (repeat refine zS ?_);refine zR ?_;refine VO ?_;refine zN ?_; (repeat refine zS ?_);refine W_cut (fun T h4 => ∃ x, Up (· < h.next) h h4 ∧ Ok h4 ∧ T.get 0 = some (.one (.p h.next 0)) ∧ T.get 1 = some (.one (.p h1.next 0)) ∧ Cells h4 h.next 28 [.sl0] ∧ h4.may h.next = true ∧ Cells h4 h1.next 28 [x] ∧ Grown h4 x h3.next 3 1 (nums plainV)) ?_ ?_
 ·refine zK (W_rounds (fun j T h4 => ∃ i x, j = 19 - i ∧ i ≤ 19 ∧ Up (· < h.next) h h4 ∧ Ok h4 ∧ T.get 0 = some (.one (.p h.next 0)) ∧ T.get 1 = some (.one (.p h1.next 0)) ∧ T.get 2 = some (.one (.i .i64 (i : Int))) ∧ Cells h4 h.next 28 [.sl0] ∧ h4.may h.next = true ∧ Cells h4 h1.next 28 [x] ∧ h4.may h1.next = true ∧ Grown h4 x h3.next 3 1 (nums (plainV.take i)) ∧ h3.next ≤ h4.next) ?_ 19 _ _ ?_);rotate_left
  ·exact ⟨0, .sl0, rfl, by omega, u3, p3.ok n2.ok, gs, gs, gs, cr3, mr3, p3.cells, p3.may, .nil, Nat.le_refl _⟩
  rintro j T h4 ⟨i, x, rfl, hi, u4, o4, t0, t1, t2, cr4, mr4, cx4, mx4, g4, hn4⟩;have un4 := u4.next
  (repeat refine zS ?_); refine zR ?_
  (refine VX (Ga1 @t2) ?_)
  (refine VX (zB (Gs1 @t2) (Gs1 @t2) zL) ?_)
  refine zN ?_; (repeat refine zS ?_);refine zC (ee) (fun hlt => W_skip ?_) (fun hge => W_exit ?_)
  ·have hi' : i < 19 := by have : (i : Int) < 19 := by simpa using hlt
                           omega
   repeat refine zS ?_
   refine W_cut (fun T h5 => ∃ x, Up (· < h.next) h h5 ∧ Ok h5 ∧ T.get 0 = some (.one (.p h.next 0)) ∧ T.get 1 = some (.one (.p h1.next 0)) ∧ T.get 2 = some (.one (.i .i64 (i : Int))) ∧ Cells h5 h.next 28 [.sl0] ∧ h5.may h.next = true ∧ Cells h5 h1.next 28 [x] ∧ h5.may h1.next = true ∧ Grown h5 x h3.next 3 1 (nums (plainV.take (i + 1))) ∧ h3.next ≤ h5.next) ?_ ?_
   ·refine zK ?_
    repeat refine zS ?_
    refine W_drawn dr31_5 (by kernel_rfl) o4.floor ?_;unfold dr31_5
    iterate 3 (first | (refine IL rfl zF (Gs2 @t1 @t2) (Gd1 @cx4.row) ?_) | (refine IX rfl (Ga2 @t1 @t2) ?_))
    refine CP rfl (ee) (default_fn hs hi') ?_;refine WI_bs1 rfl el26 ⟨_, ze26⟩ (ee) o4 Dc fun h5 n5 => ?_;have e5 := n5.next;have g5 := g4.up n5.up (fun q hq => (g4.lt hq).2);have fl4 := u4.floor;have flo := ok.floor;have fl5 := n5.up.floor
    refine WI_app (n0 := h3.next) rfl ap26_26 (ee) (ee) n5.cells OffA rfl g5 (fun b hb => by
     have := g4.lt hb;refine ⟨OffA, OffA, ?_⟩;show h5.floor ≤ b
     omega) n5.ok (n5.ok.fenced (fun b hb => OffA) (fun b hb => OffA) n5.ok.floor) Om (mm := i) (by rw [nums_length, List.length_take]; unfold plainV; simp; omega) Om Om Dc fun x6 h6 w6 => ?_
    have e6 := w6.next;have hxl : ∀ q, S.blk x = some q → h3.next ≤ q := fun q hq => (g4.lt hq).1
    have cx6 := w6.up.cells (b := h1.next) ⟨by omega, fun e => by have := hxl _ e; omega⟩ (n5.up.cells (show h1.next < h4.next by omega) cx4);have mx6 : h6.may h1.next = true := by rw [w6.up.may, n5.up.may]; exact mx4
    (refine IX rfl (Ga1 @t1) ?_)
    refine WI_store1 rfl (ee) (ee) sz26 cx6 mx6 (by simp) OffA OffA (H.may_iff mx6).1.1 fun h7 p7 => ?_;have p7 : Put h6 h7 h1.next 28 [x6] := p7.whole rfl;have e7 := p7.next;have g7 : Grown h7 x6 h3.next 3 1 (nums (plainV.take (i + 1))) := (w6.grown.same (by rw [range19_take hi', nums_append]; rfl)).up p7.up (fun q hq => by have := (w6.grown.lt hq).1; omega);have v7 : Up (fun q => q < h3.next ∧ q ≠ h1.next) h4 h7 := (n5.up.mono fun q hq => by omega).trans ((w6.up.mono fun q hq => ⟨by omega, fun e => by have := hxl _ e; omega⟩).trans (p7.up.mono fun q hq => hq.2));exact WI_nil ⟨by trivial, x6, u4.trans (v7.mono fun q hq => by omega), p7.ok w6.ok, gt t0, gt t1, gt t2, v7.cells ⟨by omega, by omega⟩ cr4, by rw [v7.may]; exact mr4, p7.cells, p7.may, g7, by omega⟩
   ·rintro T h5 ⟨x, u5, o5, t0, t1, t2, cr5, mr5, cx5, mx5, g5, hn5⟩;refine zR ?_
    iterate 3 (first | (refine VX (zB (Gs1 @t2) (Gs1 @t2) zA) ?_; (try rw [zI Om Om])) | (refine VX (Ga1 @t2) ?_))
    exact zN ⟨19 - (i + 1), by omega, i + 1, x, rfl, hi', u5, o5, gt t0, gt t1, gs, cr5, mr5, cx5, mx5, g5, hn5⟩
  ·have hi' : i = 19 := by have : ¬ (i : Int) < 19 := by simpa using hge
                           omega
   subst hi';exact ⟨fun _ => ⟨rfl, x, u4, o4, t0, t1, cr4, mr4, cx4, g4⟩, fun hne => absurd rfl hne⟩
 rintro T h4 ⟨x, u4, o4, t0, t1, cr4, mr4, cx4, g4⟩;obtain ⟨q, rfl, cq, hq, mq⟩ := g4.whole (by unfold plainV; simp)
 (repeat refine zS ?_); refine zR ?_
 (refine VX (Gd2 @cx4.row @t1) ?_)
 refine WO_storeA (Gt1 @t0) (ee) sz28 rfl (by simp) cr4 mr4 (by simp) fun h5 p5 => ?_;have r5 : h5.row h.next 0 1 = some [.sl q 0 plainV.length plainV.length 1 false] := (p5.whole rfl).cells.all;refine zN (W_ret ⟨.inr rfl, _, by (simp only [resultB, resB, parts, V.part, Sl.get_set', ↓reduceIte, Nat.reduceEqDiff, t0, LD28, r5, aggR_some] <;> rfl), q, rfl, p5.up.cells (show q ≠ h.next by omega) cq, by rw [p5.up.may]; exact mq, by omega, by rw [p5.next]; exact hq.2, u4.trans (p5.up.mono fun q hq => by omega), p5.ok o4⟩)
end Go.Ai
namespace Go.Ai
open Go.Proofs
def setI : List Int → List Int → List Int
 | vals, p :: v :: r => setI (vals.set p.toNat v) r
 | vals, _ => vals
theorem setI_len : ∀ (l vals : List Int), (setI vals l).length = vals.length
 | [], _ => rfl
 | [_], _ => rfl
 | p :: v :: r, vals => by show (setI _ r).length = _; rw [setI_len r]; simp
theorem setI_take : ∀ {l vals : List Int} {k : Nat} {p v : Int}, l[2 * k]? = some p → l[2 * k + 1]? = some v → setI vals (l.take (2 * (k + 1))) = (setI vals (l.take (2 * k))).set p.toNat v
 | [], vals, k, p, v, h, _ => by simp at h
 | [_], vals, k, p, v, _, h => by simp at h
 | a :: b :: r, vals, 0, p, v, h1, h2 => by
  simp at h1 h2; subst h1; subst h2; rfl
 | a :: b :: r, vals, k + 1, p, v, h1, h2 => by
  have h1 : r[2 * k]? = some p := by rw [show 2 * (k + 1) = 2 * k + 1 + 1 by omega] at h1; simpa using h1
  have h2 : r[2 * k + 1]? = some v := by rw [show 2 * (k + 1) + 1 = 2 * k + 1 + 1 + 1 by omega] at h2; simpa using h2
  have e1 : (a :: b :: r).take (2 * (k + 1 + 1)) = a :: b :: r.take (2 * (k + 1)) := by rw [show 2 * (k + 1 + 1) = 2 * (k + 1) + 1 + 1 by omega]; rfl
  have e2 : (a :: b :: r).take (2 * (k + 1)) = a :: b :: r.take (2 * k) := by rw [show 2 * (k + 1) = 2 * k + 1 + 1 by omega]; rfl
  rw [e1, e2];show setI (vals.set a.toNat b) _ = (setI (vals.set a.toNat b) _).set _ _;exact setI_take h1 h2
theorem setI_all {l vals : List Int} {k : Nat} (h : l.length ≤ 2 * k + 1) (h2 : 2 * k ≤ l.length) : setI vals (l.take (2 * k)) = setI vals l := by
 induction k generalizing l vals with
 | zero =>
  match l, h with
  | [], _ => rfl
  | [_], _ => rfl
 | succ k ih =>
  match l, h, h2 with
  | [], _, h2 => simp at h2
  | [_], _, h2 => simp at h2; omega
  | a :: b :: r, h, h2 =>
   rw [show 2 * (k + 1) = 2 * k + 1 + 1 by omega];show setI (vals.set a.toNat b) (r.take (2 * k)) = setI (vals.set a.toNat b) r;exact ih (by simp at h; omega) (by simp at h2; omega)
theorem pl25 : placesOf Try.prog 25 = some [(0, 1), (1, 1)] := by kernel_rfl
theorem pl31 : placesOf Try.prog 31 = some [(0, 2), (2, 1), (3, 1)] := by kernel_rfl
theorem B_fn {spec : CallF} (hs : SpecLay spec) {h : H} {v : S} {l : List Int} {id : Int} (ok : Ok h) (hi : IntsAt h v l) (hl : l.length ≤ 100) (hp : ∀ j p, l[2 * j]? = some p → 0 ≤ p ∧ p < 19) :
  WF Try.prog spec 19 [.one (.i .i64 id), .one v] h fun r h1 => ∃ q, r = .agg [.i .i64 id, .i .i64 0, .sl q 0 19 19 1 false, .sl0] ∧ Cells h1 q 3 (nums (setI plainV l)) ∧ h1.may q = true ∧ h.next ≤ q ∧ q < h1.next ∧ Up (· < h.next) h h1 ∧ Ok h1 := by
 refine WF_of Try.func19 rfl (hs.s _ _ _) (by rw [Try.ntmps19]; simp) (by rw [Try.ntmps19]; decide) ?_;rw [Try.ntmps19, Try.results19];simp only [Sl.setMany_cons, Sl.setMany_nil, Nat.zero_add, Nat.reduceAdd]
 (repeat refine zS ?_); refine zR ?_
 refine WO_alloc zb31 rfl ok Dc fun h1 n1 => ?_;have e1 := n1.next;refine zN ?_; (repeat refine zS ?_);refine zR ?_;refine VO ?_;refine zV (v := .agg [.i .i64 id, .i .i64 0]) (by rw [ex_build]; exact bd_of pl25 zb25 (by simp only [evParts, go_sem, ↓reduceIte, Nat.reduceEqDiff]; rfl) rfl) Dc ?_;refine WO_fn (ee) (by simp) Dc ((rplain_fn hs n1.ok).mono ?_);rintro _ h2 ⟨q, rfl, cq2, mq2, hq1, hq2, u2, o2⟩;have e2 := u2.next;refine zV (v := .agg [.i .i64 id, .i .i64 0, .sl q 0 19 19 1 false, .sl0]) (by rw [ex_build]; exact bd_of pl31 zb31 (by simp only [evParts, go_sem, ↓reduceIte, Nat.reduceEqDiff]; rfl) rfl) Dc ?_;refine WO_alloc zb31 rfl o2 Dc fun h3 n3 => ?_;have e3 := n3.next;refine WO_storeA (ee) (ee) sz31 rfl (by simp) n3.cells n3.may (by simp [V.cells]) fun h4 p4 => ?_;have p4 : Put h3 h4 h2.next 31 [.i .i64 id, .i .i64 0, .sl q 0 19 19 1 false, .sl0] := p4.whole rfl;have e4 := p4.next;have v4 : Up (· < h2.next) h2 h4 := n3.up.trans (p4.up.mono fun q hq => by omega);have v24 : Up (· < h1.next) h1 h4 := u2.trans (v4.mono fun q hq => by omega);have cq4 := v4.cells hq2 cq2;have mq4 : h4.may q = true := by rw [v4.may]; exact mq2
 have u4 : Up (· < h.next) h h4 := n1.up.trans (v24.mono fun q hq => by omega);have cr4 := v24.cells (show h.next < h1.next by omega) n1.cells;have mr4 : h4.may h.next = true := by rw [v24.may]; exact n1.may
 refine zN ?_; (repeat refine zS ?_);refine zR ?_;refine VO ?_;refine zN ?_; (repeat refine zS ?_);refine W_cut (fun T h5 => Up (· < h.next) h h5 ∧ Ok h5 ∧ T.get 4 = some (.one (.p h.next 0)) ∧ T.get 5 = some (.one (.p h2.next 0)) ∧ Cells h5 h.next 31 (V.agg [S.i IntKind.i64 (Int.ofNat 0), S.i IntKind.i64 (Int.ofNat 0), S.sl0, S.sl0]).cells ∧ h5.may h.next = true ∧ Cells h5 h2.next 31 [.i .i64 id, .i .i64 0, .sl q 0 19 19 1 false, .sl0] ∧ Cells h5 q 3 (nums (setI plainV l)) ∧ h5.may q = true ∧ h4.next ≤ h5.next) ?_ ?_
 ·refine zK (W_rounds (fun j T h5 => ∃ i, j = l.length - i ∧ 2 * i ≤ l.length ∧ Up (· ≠ q) h4 h5 ∧ Ok h5 ∧ T.get 1 = some (.one v) ∧ T.get 4 = some (.one (.p h.next 0)) ∧ T.get 5 = some (.one (.p h2.next 0)) ∧ T.get 6 = some (.one (.i .i64 ((2 * i : Nat) : Int))) ∧ Cells h5 q 3 (nums (setI plainV (l.take (2 * i)))) ∧ h5.may q = true) ?_ l.length _ _ ?_);rotate_left
  ·exact ⟨0, rfl, by omega, .refl _ _, p4.ok n3.ok, gs, gs, gs, gs, by rw [show l.take (2 * 0) = [] from rfl]; exact cq4, mq4⟩
  rintro j T h5 ⟨i, rfl, hil, u5, o5, t1, t4, t5, t6, cq5, mq5⟩;have un5 := u5.next
  have hi5 : IntsAt h5 v l := by
   rcases hi with hi | ⟨b, c, ex, rfl, k1, k2⟩
   ·exact .inl hi
   ·exact .inr ⟨b, c, ex, rfl, by omega, fun k x hx => by rw [u5.row (show b ≠ q by omega), u4.row k1]; exact k2 k x hx⟩
  (repeat refine zS ?_); refine zR ?_
  iterate 3 (first | (refine VX (zB (Gs2 @t1 @t6) (Gs2 @t1 @t6) zA) ?_; (try rw [zI Om Om])) | (refine VX (Ga2 @t1 @t6) ?_))
  refine zV (hi5.len (Gt1 @t1)) Dc ?_
  (refine VX (zB ee ee zL) ?_)
  refine zN ?_; (repeat refine zS ?_);refine zC (ee) (fun hlt => W_skip ?_) (fun hge => W_exit ?_)
  ·have hi' : 2 * i + 1 < l.length := by have : ((2 * i : Nat) : Int) + 1 < (l.length : Int) := by simpa using hlt
                                         omega
   obtain ⟨pv, hpv⟩ : ∃ pv, l[2 * i]? = some pv := ⟨_, List.getElem?_eq_getElem Om⟩;obtain ⟨vv, hvv⟩ : ∃ vv, l[2 * i + 1]? = some vv := ⟨_, List.getElem?_eq_getElem Om⟩;have hpb := hp i pv hpv;obtain ⟨pn, rfl⟩ : ∃ n : Nat, pv = n := ⟨pv.toNat, by omega⟩;have hst := setI_take (vals := plainV) hpv hvv;rw [Int.toNat_natCast] at hst;have hsl : (setI plainV (l.take (2 * i))).length = 19 := by rw [setI_len]; unfold plainV; simp
   obtain ⟨vb, vc, ex, hv, vl, vr⟩ : ∃ b c ex, v = .sl b 0 l.length c 1 ex ∧ b < h5.next ∧ ∀ k x, l[k]? = some x → h5.row b k 1 = some [.i .i64 x] := by
    rcases hi5 with ⟨e, _⟩ | w
    ·rw [e] at hi'; simp at hi'
    ·exact w
   have r1 := vr _ _ hpv;have r2 := vr _ _ hvv;have cb5 := u5.cells (show h2.next ≠ q by omega) p4.cells;rw [hv] at t1;have hpn : pn < 19 := by omega
   repeat refine zS ?_
   refine W_cut (fun T h6 => Up (· ≠ q) h4 h6 ∧ Ok h6 ∧ T.get 1 = some (.one v) ∧ T.get 4 = some (.one (.p h.next 0)) ∧ T.get 5 = some (.one (.p h2.next 0)) ∧ T.get 6 = some (.one (.i .i64 ((2 * i : Nat) : Int))) ∧ Cells h6 q 3 (nums (setI plainV (l.take (2 * (i + 1))))) ∧ h6.may q = true) ?_ ?_
   ·refine zK ?_
    repeat refine zS ?_
    refine W_drawn dr19_5 (by kernel_rfl) o5.floor ?_;unfold dr19_5;have hadd : ((2 * i : Nat) : Int) + 1 = ((2 * i + 1 : Nat) : Int) := rfl
    iterate 13 (first | (refine IX rfl (zB (Gs4 @t1 @t5 @t6 @hadd) (Gs4 @t1 @t5 @t6 @hadd) zA) ?_; (try rw [zI Om Om])) | (refine IL rfl zF (Gs4 @t1 @t5 @t6 @hadd) (Gd3 @cb5.row @r1 @r2) ?_) | (refine IX rfl (Gd4 @t1 @t5 @t6 @hadd) ?_) | (refine IX rfl (Ga4 @t1 @t5 @t6 @hadd) ?_))
    refine WI_store1 rfl (ee) (ee) sz3 cq5 mq5 (by rw [nums_length, hsl]; omega) OffA OffA (H.may_iff mq5).1.1 fun h6 p6 => ?_;have c6 := p6.cells;rw [nums_set Om, ← hst] at c6;exact WI_nil ⟨by trivial, u5.trans p6.up, p6.ok o5, (Gu2 @t1 @hv), gt t4, gt t5, gt t6, c6, p6.may⟩
   ·rintro T h6 ⟨u6, o6, t1, t4, t5, t6, c6, m6⟩;have hadd2 : ((2 * i : Nat) : Int) + 2 = ((2 * (i + 1) : Nat) : Int) := by omega
    refine zR ?_
    iterate 3 (first | (refine VX (zB (Gs2 @t6 @hadd2) (Gs2 @t6 @hadd2) zA) ?_; (try rw [zI Om Om])) | (refine VX (Ga2 @t6 @hadd2) ?_))
    exact zN ⟨l.length - (i + 1), by omega, i + 1, rfl, by omega, u6, o6, gt t1, gt t4, gt t5, (Gu1 @hadd2), c6, m6⟩
  ·have hi' : l.length ≤ 2 * i + 1 := by have : ¬ ((2 * i : Nat) : Int) + 1 < (l.length : Int) := by simpa using hge
                                         omega
   rw [setI_all hi' hil] at cq5;have un5 := u5.next;exact ⟨fun _ => ⟨rfl, u4.trans (u5.mono fun q hq => by omega), o5, t4, t5, u5.cells Om cr4, by rw [u5.may]; exact mr4, u5.cells Om p4.cells, cq5, mq5, un5⟩, fun hne => absurd rfl hne⟩
 rintro T h5 ⟨u5, o5, t4, t5, cr5, mr5, cb5, cq5, mq5, hn5⟩
 (repeat refine zS ?_); refine zR ?_
 (refine VX (Gd2 @cb5.row @t5) ?_)
 refine WO_storeA (Gt1 @t4) (ee) sz31 rfl (by simp) cr5 mr5 (by simp [V.cells]) fun h6 p6 => ?_;have r6 : h6.row h.next 0 4 = some [.i .i64 id, .i .i64 0, .sl q 0 19 19 1 false, .sl0] := (p6.whole rfl).cells.all;exact zN (W_ret ⟨.inr rfl, _, by (simp only [resultB, resB, parts, V.part, Sl.get_set', ↓reduceIte, Nat.reduceEqDiff, t4, LD31, r6, aggR_some] <;> rfl), q, rfl, p6.up.cells (show q ≠ h.next by omega) cq5, by rw [p6.up.may]; exact mq5, by omega, by rw [p6.next]; omega, u5.trans (p6.up.mono fun q hq => by omega), p6.ok o5⟩)
end Go.Ai
