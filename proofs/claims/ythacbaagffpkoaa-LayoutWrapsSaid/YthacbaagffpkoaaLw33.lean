/-
LayoutWraps, part 33 of 48: FxLayI FxLayJ FxLayK.
-/
import Derived.Test.YthacbaagffpkoaaLw32
set_option linter.unusedVariables false
set_option linter.unusedSimpArgs false
set_option maxRecDepth 100000
set_option maxHeartbeats 0
namespace Go.Ai
open Go.Proofs
def itemI (kv : List Int) (base least greatest : Int) : Itm := ⟨outI (vAt kv 12) base, outI (vAt kv 12) least, if greatest = -1 then -1 else outI (vAt kv 12) greatest, vAt kv 9, vAt kv 10⟩
theorem outI_co (m n : Int) : CO (outI m n) := plI_in _ _
theorem outI_nn {m n : Int} (hm : 0 ≤ m ∧ m ≤ 1073741824) (hn : 0 ≤ n ∧ n ≤ 1099511627776) : 0 ≤ outI m n ∧ outI m n ≤ 1099511627776 := by
 unfold outI plI twI plI satI; omega
theorem itemI_ok {kv : List Int} (k : VOk kv) {base least greatest : Int} (hb : 0 ≤ base ∧ base ≤ 1099511627776) (hl : 0 ≤ least ∧ least ≤ 1099511627776) (hg : -1 ≤ greatest ∧ greatest ≤ 1099511627776) : (itemI kv base least greatest).ok := by
 have hm : 0 ≤ vAt kv 12 ∧ vAt kv 12 ≤ 1073741824 := k.bd 12 Om;have h9 : 0 ≤ vAt kv 9 ∧ vAt kv 9 ≤ 1048576 := k.bd 9 Om;have h10 : 0 ≤ vAt kv 10 ∧ vAt kv 10 ≤ 1048576 := k.bd 10 Om;refine ⟨outI_nn hm hb, outI_nn hm hl, ?_, h9, h10⟩;show -1 ≤ (if greatest = -1 then (-1 : Int) else outI (vAt kv 12) greatest) ∧ (if greatest = -1 then (-1 : Int) else outI (vAt kv 12) greatest) ≤ _;split
 ·omega
 ·have := outI_nn hm (n := greatest) Om; omega
theorem item_fn {spec : CallF} (hs : SpecLay spec) {h : H} {n0 b o : Nat} {base least greatest : Int} {kv : List Int} (ok : Ok h) (hn : n0 ≤ h.next) (k : Vals h n0 b o kv) (vok : VOk kv) (hb : CO base) (hl : CO least) (hg : CO greatest) :
  WF Try.prog spec 80 [.one (.p b o), .one (.i .i64 base), .one (.i .i64 least), .one (.i .i64 greatest)] h fun r h1 => r = .agg (itemI kv base least greatest).cells ∧ Up (· < h.next) h h1 ∧ Ok h1 := by
 refine WF_of Try.func80 rfl (hs.s _ _ _) (by rw [Try.ntmps80]; simp) (by rw [Try.ntmps80]; decide) ?_;rw [Try.ntmps80, Try.results80];simp only [Sl.setMany_cons, Sl.setMany_nil, Nat.zero_add, Nat.reduceAdd]
 (repeat refine zS ?_); refine zR ?_
 refine WO_alloc zb109 rfl ok Dc fun h1 n1 => ?_;have e1 := n1.next;have k1 := k.up n1.up fun q hq => by omega
 refine zN ?_; (repeat refine zS ?_);refine zR ?_
 iterate 2 (refine VO ?_)
 refine WO_fn (ee) (by simp) Dc ((outer_fn hs n1.ok k1 vok hb).mono ?_);rintro _ h2 ⟨rfl, u2, o2⟩;have hn2 := u2.next;have k2 := k1.up u2 fun q hq => by omega
 iterate 2 (refine VO ?_)
 refine WO_fn (ee) (by simp) Dc ((outer_fn hs o2 k2 vok hl).mono ?_);rintro _ h3 ⟨rfl, u3, o3⟩;have hn3 := u3.next;have k3 := k2.up u3 fun q hq => by omega
 refine VO ?_;refine WO_fn (ee) (by simp) Dc ((v_fn hs k3 (i := 9) (vok.at Om).1).mono ?_);rintro _ h3 ⟨rfl, rfl⟩;refine VO ?_;refine WO_fn (ee) (by simp) Dc ((v_fn hs k3 (i := 10) (vok.at Om).1).mono ?_);rintro _ h3 ⟨rfl, rfl⟩;refine zV (v := .agg [.i .i64 (outI (vAt kv 12) base), .i .i64 (outI (vAt kv 12) least), .i .i64 (-1), .i .i64 (vAt kv 9), .i .i64 (vAt kv 10)]) (by rw [ex_build]; exact bd_of (by kernel_rfl : placesOf Try.prog 109 = some [(0, 1), (1, 1), (2, 1), (3, 1), (4, 1)]) zb109 (by simp only [evParts, go_sem, ↓reduceIte, Nat.reduceEqDiff]; rfl) rfl) Dc ?_;refine WO_alloc zb109 rfl o3 Dc fun h4 n4 => ?_;have e4 := n4.next;refine WO_storeA (ee) (ee) sz109 rfl (by simp) n4.cells n4.may (by simp [V.cells]) fun h5 p5 => ?_;have p5 := p5.whole rfl;have e5 := p5.next;have c5 := p5.cells;have o5 := p5.ok n4.ok;have u15 : Up (· < h1.next) h1 h5 := u2.trans ((u3.mono fun b hb => by omega).trans ((n4.up.mono fun b hb => by omega).trans (p5.up.mono fun b hb => by omega)));have k5 := k1.up u15 fun q hq => by omega
 have cr := u15.cells (show h.next < h1.next by omega) n1.cells;have mr : h5.may h.next = true := by rw [u15.may]; exact n1.may
 refine zN ?_;refine zS ?_;refine W_cut (fun T h6 => T.get 8 = some (.one (.p h.next 0)) ∧ T.get 9 = some (.one (.p h3.next 0)) ∧ Cells h6 h3.next 109 (itemI kv base least greatest).cells ∧ Cells h6 h.next 109 (V.agg [.i .i64 (Int.ofNat 0), .i .i64 (Int.ofNat 0), .i .i64 (Int.ofNat 0), .i .i64 (Int.ofNat 0), .i .i64 (Int.ofNat 0)]).cells ∧ h6.may h.next = true ∧ Up (· < h.next) h h6 ∧ Ok h6) ?_ ?_
 ·(repeat refine zS ?_); refine zR ?_
  refine VO ?_
  (refine VX (zB ee ee in_neq) ?_)
  refine zN ?_; (repeat refine zS ?_);refine zC (ee) (fun hc => ?_) (fun hc => W_skip ?_)
  ·have hc : greatest ≠ -1 := by simpa using hc
   refine zR ?_
   iterate 2 (refine VO ?_)
   refine WO_fn (ee) (by simp) Dc ((outer_fn hs o5 k5 vok hg).mono ?_);rintro _ h6 ⟨rfl, u6, o6⟩;have hn6 := u6.next;have c6 := u6.cells (show h3.next < h5.next by omega) c5;refine VO ?_;refine WO_store1 (ee) (ee) sz3 c6 (by rw [u6.may]; exact p5.may) (by simp) fun h7 p7 => ?_
   have e : (itemI kv base least greatest).cells = [.i .i64 (outI (vAt kv 12) base), .i .i64 (outI (vAt kv 12) least), .i .i64 (outI (vAt kv 12) greatest), .i .i64 (vAt kv 9), .i .i64 (vAt kv 10)] := by
    unfold itemI Itm.cells; rw [if_neg hc]
   rw [e];exact zN ⟨rfl, gs, gs, p7.cells, p7.up.cells (show h.next ≠ h3.next by omega) (u6.cells (show h.next < h5.next by omega) cr), by rw [p7.up.may, u6.may]; exact mr, (n1.up.trans (u15.mono fun b hb => by omega)).trans ((u6.mono fun b hb => by omega).trans (p7.up.mono fun b hb => by omega)), p7.ok o6⟩
  ·have hc : greatest = -1 := by simpa using hc
   have e : (itemI kv base least greatest).cells = [.i .i64 (outI (vAt kv 12) base), .i .i64 (outI (vAt kv 12) least), .i .i64 (-1), .i .i64 (vAt kv 9), .i .i64 (vAt kv 10)] := by
    unfold itemI Itm.cells; rw [if_pos hc]
   rw [e];exact ⟨rfl, gs, gs, c5, cr, mr, n1.up.trans (u15.mono fun b hb => by omega), o5⟩
 rintro T h6 ⟨t8, t9, c6, cr6, m6, u6, o6⟩;unfold Itm.cells at c6
 (repeat refine zS ?_); refine zR ?_
 (refine VX (Gd2 @c6.row @t9) ?_)
 refine WO_storeA (Gt1 @t8) (ee) sz109 rfl (by simp) cr6 m6 (by simp [V.cells]) fun h7 p7 => ?_;have p7 := p7.whole rfl;have r7 : h7.row h.next 0 5 = some [.i .i64 (itemI kv base least greatest).base, .i .i64 (itemI kv base least greatest).mn, .i .i64 (itemI kv base least greatest).mx, .i .i64 (itemI kv base least greatest).gr, .i .i64 (itemI kv base least greatest).sh] := p7.cells.all;exact zN (W_ret ⟨.inr rfl, _, by (simp only [resultB, resB, parts, V.part, Sl.get_set', ↓reduceIte, Nat.reduceEqDiff, t8, LD109, r7, aggR_some] <;> rfl), rfl, u6.trans (p7.up.mono fun b hb => by omega), p7.ok o6⟩)
def acrossItm (kv : List Int) : Itm := itemI kv (if vAt kv 11 = -1 then max 0 (vAt kv 3) else vAt kv 11) (vAt kv 5) (vAt kv 6)
theorem acrossItm_ok {kv : List Int} (k : VOk kv) : (acrossItm kv).ok := by
 have h11 : -1 ≤ vAt kv 11 ∧ vAt kv 11 ≤ 1099511627776 := k.bd 11 Om;have h3 : -1 ≤ vAt kv 3 ∧ vAt kv 3 ≤ 1099511627776 := k.bd 3 Om;refine itemI_ok k ?_ (k.bd 5 Om) (k.bd 6 Om);split <;> omega
theorem acrossI_fn {spec : CallF} (hs : SpecLay spec) {h : H} {n0 b o : Nat} {kv : List Int} (ok : Ok h) (hn : n0 ≤ h.next) (k : Vals h n0 b o kv) (vok : VOk kv) :
  WF Try.prog spec 70 [.one (.p b o)] h fun r h1 => r = .agg (acrossItm kv).cells ∧ Up (· < h.next) h h1 ∧ Ok h1 := by
 have h11 : -1 ≤ vAt kv 11 ∧ vAt kv 11 ≤ 1099511627776 := vok.bd 11 Om;have h3 : -1 ≤ vAt kv 3 ∧ vAt kv 3 ≤ 1099511627776 := vok.bd 3 Om;refine WF_of Try.func70 rfl (hs.s _ _ _) (by rw [Try.ntmps70]; simp) (by rw [Try.ntmps70]; decide) ?_;rw [Try.ntmps70, Try.results70];simp only [Sl.setMany_cons, Sl.setMany_nil, Nat.zero_add, Nat.reduceAdd]
 (repeat refine zS ?_); refine zR ?_
 refine WO_alloc zb109 rfl ok Dc fun h1 n1 => ?_;have e1 := n1.next;have k1 := k.up n1.up fun q hq => by omega
 refine zN ?_; (repeat refine zS ?_);refine zR ?_;refine VO ?_;refine WO_fn (ee) (by simp) Dc ((v_fn hs k1 (i := 11) (vok.at Om).1).mono ?_);rintro _ h1 ⟨rfl, rfl⟩;refine VO ?_;refine zN ?_;refine zS ?_;refine W_cut (fun T h2 => h2 = h1 ∧ T.get 0 = some (.one (.p b o)) ∧ T.get 2 = some (.one (.p h.next 0)) ∧ T.get 3 = some (.one (.i .i64 (if vAt kv 11 = -1 then max 0 (vAt kv 3) else vAt kv 11)))) ?_ ?_
 ·(repeat refine zS ?_); refine zR ?_
  refine VO ?_
  (refine VX (zB ee ee in_eql) ?_)
  refine zN ?_; (repeat refine zS ?_);refine zC (ee) (fun hc => ?_) (fun hc => W_skip ?_)
  ·have hc : vAt kv 11 = -1 := by simpa using hc
   rw [if_pos hc];refine zR ?_;refine VO ?_;refine WO_fn (ee) (by simp) Dc ((v_fn hs k1 (i := 3) (vok.at Om).1).mono ?_);rintro _ h1 ⟨rfl, rfl⟩
   (refine VX (ex_max Gs0 Gs0) ?_)
   refine VO ?_;exact zN ⟨rfl, rfl, gs, gs, gs⟩
  ·have hc : ¬ vAt kv 11 = -1 := by simpa using hc
   rw [if_neg hc];exact ⟨rfl, rfl, gs, gs, gs⟩
 rintro T h2 ⟨rfl, t0, t2, t3⟩
 (repeat refine zS ?_); refine zR ?_
 iterate 3 (refine VX (Ga2 @t0 @t3) ?_)
 refine WO_fn (ee) (by simp) Dc ((v_fn hs k1 (i := 5) (vok.at Om).1).mono ?_);rintro _ h2 ⟨rfl, rfl⟩
 (refine VX (Ga1 @t0) ?_)
 refine WO_fn (ee) (by simp) Dc ((v_fn hs k1 (i := 6) (vok.at Om).1).mono ?_);rintro _ h2 ⟨rfl, rfl⟩;refine WO_fn (ee) (by simp) Dc ((item_fn hs n1.ok Om k1 vok (by split <;> unfold CO <;> omega) (vok.at Om).2.2.2 (vok.at Om).2.2.2).mono ?_);rintro _ h3 ⟨rfl, u3, o3⟩;refine WO_storeA (Gt1 @t2) (ee) sz109 rfl (by simp [Itm.cells]) (u3.cells (show h.next < h2.next by omega) n1.cells) (by rw [u3.may]; exact n1.may) (by simp [V.cells, Itm.cells]) fun h4 p4 => ?_;have p4 := p4.whole rfl;have r4 : h4.row h.next 0 5 = some (acrossItm kv).cells := p4.cells.all;exact zN (W_ret ⟨.inr rfl, _, by (simp only [resultB, resB, parts, V.part, Sl.get_set', ↓reduceIte, Nat.reduceEqDiff, t2, LD109, r4, aggR_some] <;> rfl), rfl, (n1.up.trans (u3.mono fun b hb => by omega)).trans (p4.up.mono fun b hb => by omega), p4.ok o3⟩)
end Go.Ai
namespace Go.Ai
open Go.Proofs
section
variable {P : Program} {spec : CallF} {nt : Nat} {T : Sl} {h : H} {K : Sl → H → Prop} {ops : Array Oper} {rg ld : List (Nat × Nat × Nat)} {ix : List (Nat × Nat × Bool)} {i m : Nat} {bar : Bool} {ty : TypeId} {ps : String} {af : Array Edge} {d : Tmp} {f : FuncId} {args : List V} {xs : Array Operand} {ts : Array TypeId}
theorem CP {v : V} (ho : ops.toList[i]? = some ⟨some d, .call ⟨.value (.func f), xs, ts⟩, ty, ps, af, none⟩) (ha : evs T xs.toList = some args) (hw : WF P spec f args (h.fenced (unseen m rg) (cond bar (unseen m ld) []) (cond bar h.floor h.next)) fun r h1 => r = v ∧ h1 = h.fenced (unseen m rg) (cond bar (unseen m ld) []) (cond bar h.floor h.next))
  (hk : WI P spec nt ops ix (T.set d v) h ((i, h.next, h.next) :: rg) ld K) (hn : ∀ x y, args ≠ [.one (.s x), .one (.s y)] := by simp) (hd : d < nt := by decide) : WI P spec nt ops ((i, m, bar) :: ix) T h rg ld K :=
 WI_call ho rfl (doCall_fn ha hn) hd (hw.mono fun r h1 q => by rw [q.1, q.2]; exact hk)
theorem CV {v : V} {p : Nat → Prop} (ho : ops.toList[i]? = some ⟨some d, .call ⟨.value (.func f), xs, ts⟩, ty, ps, af, none⟩) (ha : evs T xs.toList = some args) (o : Ok h) (hw : WF P spec f args (h.fenced (unseen m rg) (cond bar (unseen m ld) []) (cond bar h.floor h.next)) fun r h1 => r = v ∧ Up p (h.fenced (unseen m rg) (cond bar (unseen m ld) []) (cond bar h.floor h.next)) h1 ∧ Ok h1)
  (hk : ∀ h3, Up p h h3 → Ok h3 → h.next ≤ h3.next → WI P spec nt ops ix (T.set d v) h3 ((i, h.next, h3.next) :: rg) ld K) (hn : ∀ x y, args ≠ [.one (.s x), .one (.s y)] := by simp) (hd : d < nt := by decide) : WI P spec nt ops ((i, m, bar) :: ix) T h rg ld K :=
 WI_call ho rfl (doCall_fn ha hn) hd (hw.mono fun r h1 q => by rw [q.1]; exact hk _ q.2.1.back (o.back q.2.1) q.2.1.next)
theorem CG {e s : Nat} {cs : List S} {p : Nat → Prop} (ho : ops.toList[i]? = some ⟨some d, .call ⟨.value (.func f), xs, ts⟩, ty, ps, af, none⟩) (ha : evs T xs.toList = some args) (o : Ok h) (hw : WF P spec f args (h.fenced (unseen m rg) (cond bar (unseen m ld) []) (cond bar h.floor h.next)) fun r h1 => ∃ x, r = .one x ∧ Grown h1 x h.next e s cs ∧ Up p (h.fenced (unseen m rg) (cond bar (unseen m ld) []) (cond bar h.floor h.next)) h1 ∧ Ok h1)
  (hk : ∀ x h3, Grown h3 x h.next e s cs → Up p h h3 → Ok h3 → h.next ≤ h3.next → WI P spec nt ops ix (T.set d (.one x)) h3 ((i, h.next, h3.next) :: rg) ld K) (hn : ∀ x y, args ≠ [.one (.s x), .one (.s y)] := by simp) (hd : d < nt := by decide) : WI P spec nt ops ((i, m, bar) :: ix) T h rg ld K :=
 WI_call ho rfl (doCall_fn ha hn) hd (hw.mono fun r h1 q => by
  obtain ⟨x, q1, q2, q3, q4⟩ := q
  rw [q1]; exact hk x _ (q2.back o (Nat.le_refl _) q3) q3.back (o.back q3) q3.next)
end
def IntsIn (h : H) (n0 : Nat) (v : S) (l : List Int) : Prop := (l = [] ∧ v = .sl0) ∨ ∃ b c ex, v = .sl b 0 l.length c 1 ex ∧ n0 ≤ b ∧ b < h.next ∧ ∀ k x, l[k]? = some x → h.row b k 1 = some [.i .i64 x]
theorem IntsIn.ints {h : H} {n0 : Nat} {v : S} {l : List Int} (k : IntsIn h n0 v l) : IntsAt h v l := by
 rcases k with k | ⟨b, c, ex, rfl, _, h1, h2⟩
 ·exact .inl k
 ·exact .inr ⟨b, c, ex, rfl, h1, h2⟩
theorem IntsIn.up {h h1 : H} {n0 : Nat} {v : S} {l : List Int} {p : Nat → Prop} (k : IntsIn h n0 v l) (u : Up p h h1) (hp : ∀ b, n0 ≤ b → b < h.next → p b) : IntsIn h1 n0 v l := by
 have hn := u.next;rcases k with k | ⟨b, c, ex, rfl, h0, h1, h2⟩
 ·exact .inl k
 ·exact .inr ⟨b, c, ex, rfl, h0, by omega, fun i x hx => by rw [u.row (hp b h0 h1)]; exact h2 i x hx⟩
theorem Grown.intsIn {h : H} {v : S} {n0 e m : Nat} {l : List Int} (k : Grown h v n0 e 1 (nums l)) (hm : m ≤ n0) : IntsIn h m v l := by
 rcases k with ⟨h1, rfl⟩ | ⟨q, n, rfl, h1, h2, h3, h4, h5, h6⟩
 ·exact .inl ⟨List.map_eq_nil_iff.1 h1, rfl⟩
 ·have : n = l.length := by rw [nums_length] at h2; omega
  subst this;exact .inr ⟨q, _, _, rfl, by omega, h6, fun i x hx => h3.at1 (nums_get hx)⟩
def lineI (fv : List Int) (inner : Int) (L : List Itm) : List Int :=
 if L.length = 0 then [] else if vAt fv 2 = 0 then [(L.length : Int)] else cutI (vAt fv 14) inner 0 [] (plains L)
theorem lines_fn {spec : CallF} (hs : SpecLay spec) {h : H} {n0 pf bb bo : Nat} {f : Frm} {v : S} {fv : List Int} {L : List Itm} (ok : Ok h) (hn : n0 ≤ h.next) (hfl : pf < h.next) (hf : h.row pf 0 1 = some [.p bb bo]) (hf3 : h.row pf 3 1 = some [.i .i64 f.inner]) (kf : Vals h n0 bb bo fv) (vf : VOk fv) (hi : ItemsAt h v L) (hl : ∀ x ∈ L, x.ok) (hlen : L.length ≤ 1000) :
  WF Try.prog spec 71 [.one (.p pf 0), .one v] h fun r h1 => ∃ x, r = .one x ∧ IntsIn h1 h.next x (lineI fv f.inner L) ∧ Up (· < h.next) h h1 ∧ Ok h1 := by
 have hg := (vf.at (i := 14) Om).2.2.2;refine WF_of Try.func71 rfl (hs.s _ _ _) (by rw [Try.ntmps71]; simp) (by rw [Try.ntmps71]; decide) ?_;rw [Try.ntmps71, Try.results71];simp only [Sl.setMany_cons, Sl.setMany_nil, Nat.zero_add, Nat.reduceAdd]
 (repeat refine zS ?_); refine zR ?_
 refine VO ?_;refine zN ?_; (repeat refine zS ?_);refine W_cutR (fun T h1 => h1 = h ∧ L.length ≠ 0 ∧ vAt fv 2 ≠ 0 ∧ T.get 0 = some (.one (.p pf 0)) ∧ T.get 1 = some (.one v)) ?_ ?_
 ·refine zK ?_
  (repeat refine zS ?_); refine zR ?_
  refine VO ?_;refine zV (hi.len (ee)) Dc ?_
  (refine VX (zB ee ee in_eql) ?_)
  refine VO ?_;refine zN ?_; (repeat refine zS ?_);refine zC (ee) (fun hc => ?_) (fun hc => ?_)
  ·have hc : L.length = 0 := by simpa using hc
   have hL : L = [] := List.eq_nil_of_length_eq_zero hc;subst hL;refine zS (zR ?_);refine VO ?_;exact zN (W_ret (.inr ⟨by simp, .inr rfl, _, RbA, _, rfl, .inl ⟨rfl, rfl⟩, .refl _ _, ok⟩))
  ·have hc : L.length ≠ 0 := by simpa using hc
   (repeat refine zS ?_); refine zR ?_
   iterate 3 (refine VO ?_)
   (refine VX (Gd1 @hf) ?_)
   refine WO_fn (ee) (by simp) Dc ((v_fn hs kf (i := 2) (vf.at Om).1).mono ?_);rintro _ h1 ⟨rfl, rfl⟩
   (refine VX (zB ee ee in_eql) ?_)
   refine VO ?_;refine zN ?_; (repeat refine zS ?_);refine zC (ee) (fun hc2 => ?_) (fun hc2 => W_skip ?_)
   ·have hc2 : vAt fv 2 = 0 := by simpa using hc2
    refine zS (zR ?_);refine VO ?_;refine zV (hi.len (ee)) Dc ?_;refine WO_bs1 el26 ⟨_, ze26⟩ (ee) ok Dc fun h2 n2 => ?_;have e2 := n2.next;refine VO ?_;refine zN (W_ret (.inr ⟨by simp, .inr rfl, _, RbA, _, rfl, .inr ⟨h1.next, 1, true, ?_, Nat.le_refl _, by omega, ?_⟩, n2.up, n2.ok⟩))
    ·unfold lineI; rw [if_neg hc, if_pos hc2]; rfl
    ·intro k x hx;unfold lineI at hx; rw [if_neg hc, if_pos hc2] at hx;exact n2.cells.at1 (nums_get (l := [(L.length : Int)]) hx)
   ·have hc2 : vAt fv 2 ≠ 0 := by simpa using hc2
    exact .inl ⟨rfl, rfl, hc, hc2, gs, gs⟩
 rintro T h1 ⟨rfl, hc, hc2, t0, t1⟩
 repeat refine zS ?_
 refine W_drawn dr71_5 (by kernel_rfl) ok.floor ?_;unfold dr71_5
 iterate 9 (first | (refine IL rfl zF (Gs2 @t0 @t1) (Gd2 @hf @hf3) ?_) | (refine IX rfl (Ga2 @t0 @t1) ?_))
 refine CG rfl (Gt1 @t1) ok (sizes_fn (hs.s _) (hs.s _) (hs.s _) (ok.fenced (fun b hb => OffA) (fun b hb => OffA) ok.floor) (hi.fenced fun b hb => by have := hi.lt hb; (try simp only [cond_true, cond_false]); repeat (first | exact Off.nil | refine Off.seen rfl ?_ | refine Off.off Om ?_)) hlen) fun x h2 g2 u2 o2 hn2 => ?_;refine CP rfl (ee) (v_fn hs ((kf.up u2 fun q hq => by simp only [fenced_next]; omega).fenced fun q hq => OffA) (i := 14) (vf.at Om).1) ?_
 have pok : ∀ y ∈ plains L, CO y := by
  intro y hy;obtain ⟨z, hz, rfl⟩ := List.mem_map.1 hy;exact co_nn (hl z hz).plain
 refine CG rfl (ee) o2 (cut_fn hs (o2.fenced (fun b hb => OffA) (fun b hb => OffA) o2.floor) (g2.ints.fenced fun b hb => by have := g2.lt hb; (try simp only [cond_true, cond_false]); repeat (first | exact Off.nil | refine Off.seen rfl ?_ | refine Off.off Om ?_)) (by simp [plains]; omega) pok hg) fun x3 h3 g3 u3 o3 hn3 => ?_
 (refine zO rfl ?_)
 refine WI_nil (W_ret ⟨.inr rfl, _, RbA, _, rfl, ?_, u2.trans (u3.mono fun b hb => by simp only [fenced_next] at hb ⊢; omega), o3⟩);unfold lineI;rw [if_neg hc, if_neg hc2];exact g3.intsIn hn2
def stretchI (fv kv : List Int) (cross : Int) : Int := if vAt fv 16 ≠ 0 ∨ vAt kv 4 ≠ -1 then -1 else highI kv (withinI cross (vAt kv 12))
theorem stretch_fn {spec : CallF} (hs : SpecLay spec) {h : H} {n0 pf bb bo kb ko : Nat} {fv kv : List Int} {cross : Int} (ok : Ok h) (hn : n0 ≤ h.next) (hfl : pf < h.next) (hf : h.row pf 0 1 = some [.p bb bo]) (kf : Vals h n0 bb bo fv) (vf : VOk fv) (kk : Vals h n0 kb ko kv) (vk : VOk kv) (hc : CO cross) :
  WF Try.prog spec 83 [.one (.p pf 0), .one (.p kb ko), .one (.i .i64 cross)] h fun r h1 => r = .one (.i .i64 (stretchI fv kv cross)) ∧ Up (· < h.next) h h1 ∧ Ok h1 := by
 have hm := (vk.at (i := 12) Om).2.2.2;refine WF_of Try.func83 rfl (hs.s _ _ _) (by rw [Try.ntmps83]; simp) (by rw [Try.ntmps83]; decide) ?_;rw [Try.ntmps83, Try.results83];simp only [Sl.setMany_cons, Sl.setMany_nil, Nat.zero_add, Nat.reduceAdd]
 (repeat refine zS ?_); refine zR ?_
 refine VO ?_;refine zN ?_;refine zS ?_;refine W_cutR (fun T h1 => h1 = h ∧ (¬ (vAt fv 16 ≠ 0 ∨ vAt kv 4 ≠ -1)) ∧ T.get 1 = some (.one (.p kb ko)) ∧ T.get 2 = some (.one (.i .i64 cross))) ?_ ?_
 ·repeat refine zS ?_
  refine W_cut (fun T h1 => h1 = h ∧ T.get 1 = some (.one (.p kb ko)) ∧ T.get 2 = some (.one (.i .i64 cross)) ∧ T.get 17 = some (.one (.b (decide (vAt fv 16 ≠ 0 ∨ vAt kv 4 ≠ -1))))) ?_ ?_
  ·refine zR ?_
   iterate 3 (refine VO ?_)
   (refine VX (Gd1 @hf) ?_)
   refine WO_fn (ee) (by simp) Dc ((v_fn hs kf (i := 16) (vf.at Om).1).mono ?_);rintro _ h1 ⟨rfl, rfl⟩
   (refine VX (zB ee ee in_neq) ?_)
   refine VO ?_;refine WO_grd rfl rfl Gs0 (fun c1 => ?_) (fun c1 => ?_)
   ·refine VN (zG rfl rfl (Gs1 @c1) rfl) ?_;refine VN (zG rfl rfl (Gs1 @c1) rfl) ?_;refine VN (zG rfl rfl (Gs1 @c1) rfl) ?_
    (refine VX (Ga1 @c1) ?_)
    refine zN ⟨rfl, (Gu1 @c1), (Gu1 @c1), ?_⟩;simp at c1;simp [c1, go_sem]
   ·(refine VG (zT rfl rfl (Gs1 @c1) rfl) (Ga1 @c1) ?_)
    refine WO_fnG (zT rfl rfl (Gs1 @c1) rfl)  (Gt1 @c1) (by simp) Dc ((v_fn hs kk (i := 4) (vk.at Om).1).mono ?_);rintro _ _ ⟨rfl, rfl⟩
    (refine VG (zT rfl rfl (Gs1 @c1) rfl) (zB (Gs1 @c1) (Gs1 @c1) in_neq) ?_)
    (refine VX (Ga1 @c1) ?_)
    refine zN ⟨rfl, (Gu1 @c1), (Gu1 @c1), ?_⟩;simp at c1;simp [c1, go_sem]
  rintro T h1 ⟨rfl, t1, t2, t17⟩;refine zC (Gt1 @t17) (fun hc1 => ?_) (fun hc1 => W_skip ?_)
  ·have hc1 : vAt fv 16 ≠ 0 ∨ vAt kv 4 ≠ -1 := of_decide_eq_true hc1;refine zS (zR ?_);refine VO ?_;exact zN (W_ret (.inr ⟨by simp, .inr rfl, _, RbA, by unfold stretchI; rw [if_pos hc1], .refl _ _, ok⟩))
  ·exact .inl ⟨rfl, rfl, of_decide_eq_false hc1, t1, t2⟩
 rintro T h1 ⟨rfl, hc1, t1, t2⟩
 (repeat refine zS ?_); refine zR ?_
 iterate 3 (refine VX (Ga2 @t1 @t2) ?_)
 refine WO_fn (Gt1 @t1) (by simp) Dc ((v_fn hs kk (i := 12) (vk.at Om).1).mono ?_);rintro _ h1 ⟨rfl, rfl⟩;refine WO_fn (ee) (by simp) Dc ((within2_fn hs ok hc hm).mono ?_);rintro _ h2 ⟨rfl, u2, o2⟩;refine WO_fn (ee) (by simp) Dc ((high_fn hs (kk.up u2 fun q hq => by omega) vk).mono ?_);rintro _ h2 ⟨rfl, rfl⟩;refine VO ?_;exact zN (W_ret ⟨.inr rfl, _, RbA, by unfold stretchI; rw [if_neg hc1], u2, o2⟩)
end Go.Ai
namespace Go.Ai
open Go.Proofs
inductive BoxT where
 | mk (t r : Int) (vals : List Int) (kids : List BoxT)
inductive GeoT where
 | mk (t r cx cy w h : Int) (kids : List GeoT)
def BoxT.t : BoxT → Int | .mk t _ _ _ => t
def BoxT.r : BoxT → Int | .mk _ r _ _ => r
def BoxT.vals : BoxT → List Int | .mk _ _ v _ => v
def BoxT.kids : BoxT → List BoxT | .mk _ _ _ k => k
def GeoT.w : GeoT → Int | .mk _ _ _ _ w _ _ => w
def GeoT.h : GeoT → Int | .mk _ _ _ _ _ h _ => h
def GeoT.kids : GeoT → List GeoT | .mk _ _ _ _ _ _ k => k
def GeoT.corner : GeoT → Int × Int → GeoT | .mk t r _ _ w h k, c => .mk t r c.1 c.2 w h k
def GeoT.cells : GeoT → S → List S | .mk t r cx cy w h _, ks => gcells t r cx cy w h ks
theorem GeoT.cells_len (g : GeoT) (ks : S) : (g.cells ks).length = 5 := by cases g; rfl
def Pk (h : H) (b : Nat) : Prop := (∃ e cs n, h.get b = some (.cells e cs n)) ∨ ∃ cs n, h.get b = some (.ro cs n) ∧ roAt cs n = some (b, 0)
theorem samePtr_of {h : H} {b o b' o' : Nat} (k : Pk h b) (k' : Pk h b') : samePtr h b o b' o' = some (decide (b = b' ∧ o = o')) := by
 unfold samePtr
 by_cases hb : b = b'
 ·subst hb;rw [show Nat.beq b b = true from Nat.beq_refl b, cond_true]
  congr 1
  by_cases ho : o = o'
  ·subst ho; rw [show Nat.beq o o = true from Nat.beq_refl o]; simp
  ·rw [show Nat.beq o o' = false from Bool.eq_false_iff.2 fun e => ho (Nat.eq_of_beq_eq_true e)]; simp [ho]
 ·have hn : Nat.beq b b' = false := Bool.eq_false_iff.2 fun e => hb (Nat.eq_of_beq_eq_true e)
  rw [hn, cond_false, decide_eq_false fun e => hb e.1];rcases k with ⟨e, cs, n, h1⟩ | ⟨cs, n, h1, r1⟩ <;> rcases k' with ⟨e', cs', n', h2⟩ | ⟨cs', n', h2, r2⟩
  ·rw [h1, h2]
  ·rw [h1, h2]; simp only; rw [r2]; rfl
  ·rw [h1, h2]; simp only; rw [r1]; rfl
  ·rw [h1, h2]; simp only; rw [r1, r2]; simp only [roSame, hn, Bool.false_and]
theorem Pk.mono {h h1 : H} {b : Nat} (k : Pk h b) (e : ∀ x, h.get b = some x → h1.get b = some x) : Pk h1 b := by
 rcases k with ⟨x, cs, n, q⟩ | ⟨cs, n, q, r⟩
 ·exact .inl ⟨x, cs, n, e _ q⟩
 ·exact .inr ⟨cs, n, e _ q, r⟩
structure BoxOwn (h : H) (n0 : Nat) (t r : Int) (vals : List Int) (b o : Nat) : Prop where
 val : Vals h n0 b o vals
 vok : VOk vals
 id : h.row b o 2 = some [.i .i64 t, .i .i64 r]
 pk : Pk h b
inductive BoxAt (h : H) (n0 : Nat) : BoxT → Nat → Nat → Prop
 | leaf {t r : Int} {vals : List Int} {b o : Nat} {ks : S} : BoxOwn h n0 t r vals b o → h.row b (o + 3) 1 = some [ks] → (ks = .sl0 ∨ ks = .lsl (Lin.num 0)) → BoxAt h n0 (.mk t r vals []) b o
 | node {t r : Int} {vals : List Int} {kids : List BoxT} {b o kb ko c : Nat} {ex : Bool} : BoxOwn h n0 t r vals b o → h.row b (o + 3) 1 = some [.sl kb ko kids.length c 4 ex] → kb < n0 → kids.length ≤ 1000 → (∀ i k, kids[i]? = some k → BoxAt h n0 k kb (ko + i * 4)) → BoxAt h n0 (.mk t r vals kids) b o
theorem BoxAt.own {h : H} {n0 b o : Nat} {B : BoxT} (k : BoxAt h n0 B b o) : BoxOwn h n0 B.t B.r B.vals b o := by cases k <;> assumption
def KidsAt (h : H) (n0 : Nat) (kids : List BoxT) (ks : S) : Prop := (kids = [] ∧ (ks = .sl0 ∨ ks = .lsl (Lin.num 0))) ∨ ∃ kb ko c ex, ks = .sl kb ko kids.length c 4 ex ∧ kb < n0 ∧ ∀ i k, kids[i]? = some k → BoxAt h n0 k kb (ko + i * 4)
theorem BoxAt.kidsS {h : H} {n0 b o : Nat} {B : BoxT} (k : BoxAt h n0 B b o) : B.kids.length ≤ 1000 ∧ ∃ ks, h.row b (o + 3) 1 = some [ks] ∧ KidsAt h n0 B.kids ks := by
 cases k with
 | leaf h1 h2 h3 => exact ⟨by simp [BoxT.kids], _, h2, .inl ⟨rfl, h3⟩⟩
 | node h1 h2 h3 h4 h5 => exact ⟨h4, _, h2, .inr ⟨_, _, _, _, rfl, h3, h5⟩⟩
theorem Vals.same {h : H} {n0 b o : Nat} {v w : List Int} (k : Vals h n0 b o v) (l : Vals h n0 b o w) : v = w := by
 obtain ⟨vb, vo, c, ex, h1, h2, h3⟩ := k.at_;obtain ⟨wb, wo, c', ex', g1, g2, g3⟩ := l.at_;rw [h1] at g1;simp only [Option.some.injEq, List.cons.injEq, S.sl.injEq, and_true] at g1;obtain ⟨rfl, rfl, el, -⟩ := g1;refine List.ext_getElem? fun i => ?_
 by_cases hi : i < v.length
 ·have a := h3 i _ (List.getElem?_eq_getElem hi);have b := g3 i _ (List.getElem?_eq_getElem Om);rw [a] at b;simp only [Option.some.injEq, List.cons.injEq, S.i.injEq, true_and, and_true] at b;rw [List.getElem?_eq_getElem hi, List.getElem?_eq_getElem Om, b]
 ·rw [List.getElem?_eq_none Om, List.getElem?_eq_none Om]
theorem BoxAt.same {h : H} {n0 b o : Nat} {B C : BoxT} (k : BoxAt h n0 B b o) (l : BoxAt h n0 C b o) : B = C := by
 have eo : ∀ {t r vals t' r' vals' b o}, BoxOwn h n0 t r vals b o → BoxOwn h n0 t' r' vals' b o → t = t' ∧ r = r' ∧ vals = vals' := fun {t r vals t' r' vals' b o} u w => by
  have e1 := u.id;rw [w.id] at e1;simp only [Option.some.injEq, List.cons.injEq, S.i.injEq, true_and, and_true] at e1;exact ⟨e1.1.symm, e1.2.symm, u.val.same w.val⟩
 induction k generalizing C with
 | leaf h1 h2 h3 =>
  cases l with
  | leaf g1 g2 g3 => obtain ⟨rfl, rfl, rfl⟩ := eo h1 g1; rfl
  | node g1 g2 g3 g4 g5 =>
   obtain ⟨rfl, rfl, rfl⟩ := eo h1 g1;rw [h2] at g2;simp only [Option.some.injEq, List.cons.injEq, and_true] at g2;rcases h3 with rfl | rfl <;> cases g2
 | node h1 h2 h3 h4 h5 ih =>
  cases l with
  | leaf g1 g2 g3 =>
   obtain ⟨rfl, rfl, rfl⟩ := eo h1 g1;rw [h2] at g2;simp only [Option.some.injEq, List.cons.injEq, and_true] at g2;rcases g3 with rfl | rfl <;> cases g2
  | node g1 g2 g3 g4 g5 =>
   obtain ⟨rfl, rfl, rfl⟩ := eo h1 g1;rw [h2] at g2;simp only [Option.some.injEq, List.cons.injEq, S.sl.injEq, and_true] at g2;obtain ⟨rfl, rfl, el, -⟩ := g2
   congr 1
   refine List.ext_getElem? fun i => ?_;rename_i ks b' o' kb ko c ex ks2 c2 ex2
   by_cases hi : i < ks.length
   ·have a := ih i _ (List.getElem?_eq_getElem hi) (g5 i _ (List.getElem?_eq_getElem Om));rw [List.getElem?_eq_getElem hi, List.getElem?_eq_getElem Om, a]
   ·rw [List.getElem?_eq_none Om, List.getElem?_eq_none Om]
inductive GeosAt (h : H) (A : Nat → Prop) : List GeoT → S → Prop
 | nil : GeosAt h A [] .sl0
 | node {l : List GeoT} {q c : Nat} {ex : Bool} (ks : Nat → S) : 0 < l.length → A q → q < h.next → (∀ i g, l[i]? = some g → h.row q (i * 5) 5 = some (g.cells (ks i))) → (∀ i g, l[i]? = some g → GeosAt h A g.kids (ks i)) → GeosAt h A l (.sl q 0 l.length c 5 ex)
theorem GeosAt.get {h h1 : H} {A A1 : Nat → Prop} {l : List GeoT} {v : S} (k : GeosAt h A l v) (hn : h.next ≤ h1.next) (e : ∀ q, A q → q < h.next → h1.get q = h.get q) (hA : ∀ q, A q → q < h.next → A1 q) : GeosAt h1 A1 l v := by
 induction k with
 | nil => exact .nil
 | node ks h1 h2 h3 h4 h5 ih => exact .node ks h1 (hA _ h2 h3) Om (fun i g hg => by unfold H.row; rw [e _ h2 h3]; exact h4 i g hg) ih
theorem GeosAt.up {h h1 : H} {A A1 : Nat → Prop} {l : List GeoT} {v : S} {p : Nat → Prop} (k : GeosAt h A l v) (u : Up p h h1) (hp : ∀ q, A q → q < h.next → p q) (hA : ∀ q, A q → q < h.next → A1 q) : GeosAt h1 A1 l v := k.get u.next (fun q h1 h2 => u.get (hp q h1 h2)) hA
def flatG (l : List (GeoT × S)) : List S := l.flatMap fun p => p.1.cells p.2
theorem flatG_len : ∀ (l : List (GeoT × S)), (flatG l).length = l.length * 5
 | [] => rfl
 | p :: l => by
  show (p.1.cells p.2 ++ flatG l).length = _;rw [List.length_append, GeoT.cells_len, flatG_len l, List.length_cons]; omega
theorem flatG_append (l m : List (GeoT × S)) : flatG (l ++ m) = flatG l ++ flatG m := by unfold flatG; rw [List.flatMap_append]
theorem flatG_get : ∀ {l : List (GeoT × S)} {i : Nat} {p : GeoT × S}, l[i]? = some p → ((flatG l).drop (i * 5)).take 5 = p.1.cells p.2
 | [], i, p, h => by simp at h
 | q :: l, 0, p, h => by
  simp only [List.length_cons, Nat.zero_lt_succ, List.getElem?_cons_zero, Option.some.injEq] at h;subst h;show ((q.1.cells q.2 ++ flatG l).drop (0 * 5)).take 5 = _;rw [Nat.zero_mul, List.drop_zero, List.take_append_of_le_length (by rw [GeoT.cells_len]; omega), List.take_of_length_le (by rw [GeoT.cells_len]; omega)]
 | q :: l, i + 1, p, h => by
  rw [List.getElem?_cons_succ] at h;show ((q.1.cells q.2 ++ flatG l).drop ((i + 1) * 5)).take 5 = _;rw [List.drop_append, List.drop_eq_nil_of_le (by rw [GeoT.cells_len]; omega), GeoT.cells_len, List.nil_append, show (i + 1) * 5 - 5 = i * 5 by omega];exact flatG_get h
structure GList (h : H) (A : Nat → Prop) (n0 : Nat) (v : S) (l : List (GeoT × S)) : Prop where
 grown : Grown h v n0 37 5 (flatG l)
 kids : ∀ p ∈ l, GeosAt h A p.1.kids p.2
theorem GList.nil {h : H} {A : Nat → Prop} {n0 : Nat} : GList h A n0 .sl0 [] := ⟨.nil, fun p hp => by cases hp⟩
theorem GList.geos {h : H} {A A1 : Nat → Prop} {n0 : Nat} {v : S} {l : List (GeoT × S)} (k : GList h A n0 v l) (hv : ∀ q, S.blk v = some q → A1 q) (hA : ∀ q, A q → q < h.next → A1 q) : GeosAt h A1 (l.map Prod.fst) v := by
 rcases k.grown with ⟨e, rfl⟩ | ⟨q, n, rfl, h1, h2, h3, h4, h5, h6⟩
 ·have : l = [] := List.eq_nil_of_length_eq_zero (by have := congrArg List.length e; rw [flatG_len] at this; simp at this; omega);subst this; exact .nil
 ·have e : n = (l.map Prod.fst).length := by rw [flatG_len] at h2; rw [List.length_map]; omega
  subst e
  have hg : ∀ i g, (l.map Prod.fst)[i]? = some g → ∃ p : GeoT × S, l[i]? = some p ∧ p.1 = g := fun i g hg => by
   rw [List.getElem?_map] at hg
   cases hl : l[i]? with
   | none => rw [hl] at hg; cases hg
   | some p => rw [hl] at hg; exact ⟨p, hl, Option.some.inj hg⟩
  refine .node (fun i => ((l[i]?).map Prod.snd).getD .sl0) h1 (hv q rfl) h6 (fun i g hi => ?_) (fun i g hi => ?_)
  ·obtain ⟨p, hp, rfl⟩ := hg i g hi;obtain ⟨hlt, _⟩ := gEi.1 hp;rw [h3.row (by rw [flatG_len]; omega), flatG_get hp, hp]; rfl
  ·obtain ⟨p, hp, rfl⟩ := hg i g hi;rw [hp]; exact (k.kids p (List.mem_of_getElem? hp)).get (Nat.le_refl _) (fun _ _ _ => rfl) hA
theorem GList.up {h h1 : H} {A A1 : Nat → Prop} {n0 : Nat} {v : S} {l : List (GeoT × S)} {p : Nat → Prop} (k : GList h A n0 v l) (u : Up p h h1) (hv : ∀ q, S.blk v = some q → q < h.next → p q) (hp : ∀ q, A q → q < h.next → p q) (hA : ∀ q, A q → q < h.next → A1 q) : GList h1 A1 n0 v l :=
 ⟨k.grown.up u fun q hq => hv q hq (k.grown.lt hq).2, fun q hq => (k.kids q hq).up u hp hA⟩
end Go.Ai
