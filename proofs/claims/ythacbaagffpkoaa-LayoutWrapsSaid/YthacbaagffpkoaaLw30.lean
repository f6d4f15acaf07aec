/-
LayoutWraps, part 30 of 48: FxLayS FxLayP.
-/
import Derived.Test.YthacbaagffpkoaaLw29
set_option linter.unusedVariables false
set_option linter.unusedSimpArgs false
set_option maxRecDepth 100000
set_option maxHeartbeats 0
namespace Go.Ai
open Go.Proofs
structure SpecLay (spec : CallF) : Prop where
 s : ∀ f args h, spec f args h = none
theorem IntsAt.len {h h1 : H} {v : S} {l : List Int} (hi : IntsAt h v l) {T : Sl} {x : Operand} (hx : ev T x = some (.one v)) {d : Option Tmp} {ty : TypeId} {ps : String} {af : Array Edge} {g : Option (Nat × Bool)} : execO Try.prog T h1 ⟨d, .call ⟨.builtin .len, #[x], #[26]⟩, ty, ps, af, g⟩ = some (.val (.one (.i .i64 (l.length : Int))) h1) := by
 rcases hi with ⟨rfl, rfl⟩ | ⟨b, c, ex, rfl, _⟩
 ·exact ex_len0 el26 hx
 ·exact ex_len el26 hx
section
variable {P : Program} {spec : CallF} {nt : Nat} {T : Sl} {h : H}
theorem bs_gen {t elem n : Nat} (ht : elemAt P t = some (elem, n)) {z : V} (hz : zeroB P elem = some z) {len : Nat} {q : Array (Nat × Operand)} {vs : List (Nat × V)} (hv : evParts T q.toList = some vs) (hc : (Nat.ble (len * n) 16777216 && Nat.beq z.cells.length n && Nat.blt 0 n) = true) {cells : List S} (hf : fillS (fun i => some (i * n, n)) (repeatS z.cells len) vs = some cells) :
  doBuildSlice P T h t len q = some (.val (.one (.sl h.next 0 len len n true)) (h.alloc (.cells elem (Go.Ai.T.setMany .e 0 cells) cells.length))) := by
 unfold elemAt at ht;split at ht
 ·rename_i e hu;split at ht
  ·rename_i n' hs;cases ht;unfold doBuildSlice;rw [hu, hv];simp only;rw [hs, hz];simp only;rw [hc, cond_true, hf];simp only;rw [H.rowK_eq]
  ·cases ht
 ·cases ht
theorem WO_bsN {K : Sl → H → Prop} {all l : List Oper} {ty : TypeId} {ps : String} {af : Array Edge} {g : Option (Nat × Bool)} {d : Tmp} {t elem n : Nat} {len : Nat} {q : Array (Nat × Operand)} (hw : wantB all T ⟨some d, .buildSlice t len q, ty, ps, af, g⟩ = some true) (ht : elemAt P t = some (elem, n)) {z : V} (hz : zeroB P elem = some z) {vs : List (Nat × V)} (hv : evParts T q.toList = some vs) (hc : (Nat.ble (len * n) 16777216 && Nat.beq z.cells.length n && Nat.blt 0 n) = true) {cells : List S} (hf : fillS (fun i => some (i * n, n)) (repeatS z.cells len) vs = some cells) (o : Ok h) (hd : d < nt)
  (hk : ∀ h1, New h h1 elem cells → WO P spec nt all l (T.set d (.one (.sl h.next 0 len len n true))) h1 K) : WO P spec nt all (⟨some d, .buildSlice t len q, ty, ps, af, g⟩ :: l) T h K :=
 WO_valG hw (by rw [ex_buildSlice]; exact bs_gen ht hz hv hc hf) hd (hk _ (.of o))
end
theorem Cells.all {h : H} {b e : Nat} {xs : List S} (hc : Cells h b e xs) : h.row b 0 xs.length = some xs := by rw [hc.row Om, List.drop_zero, List.take_length]
theorem Grown.whole {h : H} {v : S} {n0 : Nat} {l : List Int} (k : Grown h v n0 3 1 (nums l)) (hp : 0 < l.length) : ∃ q, v = .sl q 0 l.length l.length 1 false ∧ Cells h q 3 (nums l) ∧ (n0 ≤ q ∧ q < h.next) ∧ h.may q = true := by
 rcases k with ⟨q, _⟩ | ⟨q, n, rfl, p1, p2, p3, p4, p5, p6⟩
 ·have := congrArg List.length q; rw [nums_length, List.length_nil] at this; omega
 ·have : n = l.length := by rw [nums_length] at p2; omega
  subst this; exact ⟨q, rfl, p3, ⟨p5, p6⟩, p4⟩
theorem grown_of {h : H} {q n0 : Nat} {l : List Int} (hc : Cells h q 3 (nums l)) (hm : h.may q = true) (h1 : n0 ≤ q) (h2 : q < h.next) (hp : 0 < l.length) : Grown h (.sl q 0 l.length l.length 1 false) n0 3 1 (nums l) :=
 .inr ⟨q, l.length, rfl, hp, by rw [nums_length]; omega, hc, hm, h1, h2⟩
theorem Put.whole {h h1 : H} {b e : Nat} {xs ys : List S} (p : Put h h1 b e (xs.take 0 ++ ys ++ xs.drop (0 + ys.length))) (hl : xs.length = ys.length) : Put h h1 b e ys := by
 have : xs.take 0 ++ ys ++ xs.drop (0 + ys.length) = ys := by rw [Nat.zero_add, ← hl, List.drop_length]; simp
 rw [this] at p; exact p
theorem W_cutR {P : Program} {spec : CallF} {nt : Nat} {T : Sl} {h : H} {a : Code} {Q : Ex → Sl → H → Prop} (I : Sl → H → Prop) (h1 : W P spec nt a T h (fun e T1 h1 => (e = .normal ∧ I T1 h1) ∨ (e ≠ .normal ∧ Q e T1 h1))) (h2 : ∀ T1 h1, I T1 h1 → Q .normal T1 h1) : W P spec nt a T h Q := h1.mono fun e T1 h1 q => by
 rcases q with ⟨rfl, q⟩ | ⟨_, q⟩
 ·exact h2 T1 h1 q
 ·exact q
def CO (x : Int) : Prop := -1099511627776 ≤ x ∧ x ≤ 1099511627776
structure Vals (h : H) (n0 b o : Nat) (vals : List Int) : Prop where
 lt : b < n0
 at_ : ∃ vb vo c ex, h.row b (o + 2 + 0) 1 = some [.sl vb vo vals.length c 1 ex] ∧ vb < n0 ∧ ∀ k x, vals[k]? = some x → h.row vb (vo + k) 1 = some [.i .i64 x]
theorem Vals.up {h h1 : H} {n0 b o : Nat} {vals : List Int} {p : Nat → Prop} (k : Vals h n0 b o vals) (u : Up p h h1) (hp : ∀ q, q < n0 → p q) : Vals h1 n0 b o vals := by
 obtain ⟨vb, vo, c, ex, h1, h2, h3⟩ := k.at_;exact ⟨k.lt, vb, vo, c, ex, by rw [u.row (hp b k.lt)]; exact h1, h2, fun i x hx => by rw [u.row (hp vb h2)]; exact h3 i x hx⟩
theorem Vals.fenced {h : H} {n0 b o : Nat} {vals : List Int} {l z : List (Nat × Nat)} {f : Nat} (k : Vals h n0 b o vals) (hp : ∀ q, q < n0 → Off l q) : Vals (h.fenced l z f) n0 b o vals := by
 obtain ⟨vb, vo, c, ex, h1, h2, h3⟩ := k.at_;exact ⟨k.lt, vb, vo, c, ex, by rw [fenced_row (hp b k.lt)]; exact h1, h2, fun i x hx => by rw [fenced_row (hp vb h2)]; exact h3 i x hx⟩
theorem back_of {h h1 : H} {l z : List (Nat × Nat)} {f : Nat} (ok : Ok h) (u : Up (· < h.next) (h.fenced l z f) h1) : Up (· < h.next) h (h.back h1) ∧ Ok (h.back h1) ∧ h.next ≤ h1.next ∧ (h.back h1).next = h1.next := ⟨u.back, ok.back u, u.next, rfl⟩
theorem prun_bind {P : Program} {α β : Type} (m : Sem α) (f : α → Sem β) : prun P (m >>= f) = (prun P m).bind fun a => prun P (f a) := by
 induction m with
 | pure a => rfl
 | program k ih => exact ih P
 | mark m k ih => exact ih
 | _ => rfl
def vAt (vals : List Int) (i : Nat) : Int := vals.getD i 0
theorem vAt_get {vals : List Int} {i : Nat} (hi : i < vals.length) : vals[i]? = some (vAt vals i) := by
 unfold vAt; rw [List.getD_eq_getElem?_getD, List.getElem?_eq_getElem hi]; rfl
theorem v_fn {spec : CallF} (hs : SpecLay spec) {h : H} {n0 b o i : Nat} {vals : List Int} (k : Vals h n0 b o vals) (hi : i < vals.length) :
  WF Try.prog spec 47 [.one (.p b o), .one (.i .i64 (i : Int))] h fun r h1 => r = .one (.i .i64 (vAt vals i)) ∧ h1 = h := by
 obtain ⟨vb, vo, c, ex, h1, h2, h3⟩ := k.at_;have r2 := h3 i _ (vAt_get hi);refine WF_of Try.func47 rfl (hs.s _ _ _) (by rw [Try.ntmps47]; simp) (by rw [Try.ntmps47]; decide) ?_;rw [Try.ntmps47, Try.results47];simp only [Sl.setMany_cons, Sl.setMany_nil, Nat.zero_add, Nat.reduceAdd]
 (repeat refine zS ?_); refine zR ?_
 refine VO ?_;refine zN ?_; (repeat refine zS ?_);refine zR ?_
 iterate 9 (first | (refine VX (Gd2 @h1 @r2) ?_) | (refine VX Gd0 ?_) | (refine VO ?_))
 exact zN (W_ret ⟨.inr rfl, _, RbA, rfl, rfl⟩)
theorem minus_fn {spec : CallF} (hs : SpecLay spec) {h : H} {a b : Int} (ha : CO a) (hb : CO b) :
  WF Try.prog spec 78 [.one (.i .i64 a), .one (.i .i64 b)] h fun v h1 => v = .one (.i .i64 (satI (a - b))) ∧ h1 = h := by
 unfold CO at ha hb;refine WF_of Try.func78 rfl (hs.s _ _ _) (by rw [Try.ntmps78]; simp) (by rw [Try.ntmps78]; decide) ?_;rw [Try.ntmps78, Try.results78];simp only [Sl.setMany_cons, Sl.setMany_nil, Nat.zero_add, Nat.reduceAdd]
 (repeat refine zS ?_); refine zR ?_
 refine VO ?_;refine zN ?_; (repeat refine zS ?_);refine zR ?_
 iterate 2 (refine VO ?_)
 (refine VX (zB ee ee in_sub) ?_; (try rw [zI Om Om]))
 refine WO_fn (ee) (by simp) Dc ((sat_fn (hs.s _)).mono ?_);rintro v h1 ⟨rfl, rfl⟩;refine VO ?_;exact zN (W_ret ⟨.inr rfl, _, RbA, rfl, rfl⟩)
def restI (a b : Int) : Int := max 0 (satI (a - b))
theorem rest_fn {spec : CallF} (hs : SpecLay spec) {h : H} {a b : Int} (ha : CO a) (hb : CO b) :
  WF Try.prog spec 64 [.one (.i .i64 a), .one (.i .i64 b)] h fun v h1 => v = .one (.i .i64 (restI a b)) ∧ h1 = h := by
 refine WF_of Try.func64 rfl (hs.s _ _ _) (by rw [Try.ntmps64]; simp) (by rw [Try.ntmps64]; decide) ?_;rw [Try.ntmps64, Try.results64];simp only [Sl.setMany_cons, Sl.setMany_nil, Nat.zero_add, Nat.reduceAdd]
 (repeat refine zS ?_); refine zR ?_
 refine VO ?_;refine zN ?_; (repeat refine zS ?_);refine zR ?_
 iterate 2 (refine VO ?_)
 refine WO_fn (ee) (by simp) Dc ((minus_fn hs ha hb).mono ?_);rintro v h1 ⟨rfl, rfl⟩
 (refine VX (ex_max Gs0 Gs0) ?_)
 refine VO ?_;exact zN (W_ret ⟨.inr rfl, _, RbA, rfl, rfl⟩)
def plI (a b : Int) : Int := satI (a + b)
theorem plI_in (a b : Int) : CO (plI a b) := satI_in _
theorem restI_in (a b : Int) : 0 ≤ restI a b ∧ restI a b ≤ 1099511627776 := by have := satI_in (a - b); unfold restI; omega
theorem plus1 {spec : CallF} (hs : SpecLay spec) {h : H} {q : Nat} {a x : Int} (ha : CO a) (hx : CO x) (hc : Cells h q 3 [.i .i64 x]) :
  WF Try.prog spec 49 [.one (.i .i64 a), .one (.sl q 0 1 1 1 true)] h fun v h1 => v = .one (.i .i64 (plI a x)) ∧ h1 = h :=
 (plus_fn (hs.s _) (hs.s _) (l := [x]) ha (fun y hy => by rw [List.mem_singleton.1 hy]; exact hx) (by simp) (fun k y hy => hc.at1 (by
  cases k with
  | zero => simp at hy; subst hy; rfl
  | succ k => simp at hy))).mono fun v h1 q => by obtain ⟨e, r⟩ := q; exact ⟨by rw [e]; rfl, r⟩
def twI (m : Int) : Int := plI m m
def withinI (n side : Int) : Int := restI n (twI side)
def outI (m n : Int) : Int := plI n (twI m)
theorem within2_fn {spec : CallF} (hs : SpecLay spec) {h : H} {n side : Int} (ok : Ok h) (hn : CO n) (hsd : CO side) :
  WF Try.prog spec 54 [.one (.i .i64 n), .one (.i .i64 side)] h fun v h1 => v = .one (.i .i64 (withinI n side)) ∧ Up (· < h.next) h h1 ∧ Ok h1 := by
 refine WF_of Try.func54 rfl (hs.s _ _ _) (by rw [Try.ntmps54]; simp) (by rw [Try.ntmps54]; decide) ?_;rw [Try.ntmps54, Try.results54];simp only [Sl.setMany_cons, Sl.setMany_nil, Nat.zero_add, Nat.reduceAdd]
 (repeat refine zS ?_); refine zR ?_
 refine VO ?_;refine zN ?_; (repeat refine zS ?_);refine zR ?_
 iterate 3 (refine VO ?_)
 refine WO_bs1 el26 ⟨_, ze26⟩ (ee) ok Dc fun h1 n1 => ?_;refine WO_fn (ee) (by simp) Dc ((plus1 hs hsd hsd n1.cells).mono ?_);rintro v h2 ⟨rfl, rfl⟩;refine WO_fn (ee) (by simp) Dc ((rest_fn hs hn (plI_in _ _)).mono ?_);rintro v h2 ⟨rfl, rfl⟩;refine VO ?_;exact zN (W_ret ⟨.inr rfl, _, RbA, rfl, n1.up, n1.ok⟩)
def loP : Nat → Int
 | 3 | 4 | 6 | 8 | 11 => -1
 | 18 => 64
 | _ => 0
def hiP : Nat → Int
 | 0 => 2
 | 1 | 2 => 1
 | 3 | 4 | 5 | 6 | 7 | 8 | 11 => 1099511627776
 | 9 | 10 => 1048576
 | 15 => 4
 | 16 => 3
 | 17 => 16777215
 | 18 => 64000
 | _ => 1073741824
theorem hiP_le (i : Nat) : -1 ≤ loP i ∧ hiP i ≤ 1099511627776 := by
 refine ⟨?_, ?_⟩
 ·unfold loP; split <;> omega
 ·unfold hiP; split <;> omega
structure VOk (vals : List Int) : Prop where
 len : vals.length = 19
 bd : ∀ i, i < 19 → loP i ≤ vAt vals i ∧ vAt vals i ≤ hiP i
theorem VOk.at {vals : List Int} (k : VOk vals) {i : Nat} (hi : i < 19) : i < vals.length ∧ loP i ≤ vAt vals i ∧ vAt vals i ≤ hiP i ∧ CO (vAt vals i) := by
 have h1 : i < vals.length := by rw [k.len]; exact hi
 have h2 := k.bd i hi;have h3 := hiP_le i;exact ⟨h1, h2.1, h2.2, by unfold CO; omega⟩
def highI (vals : List Int) (n : Int) : Int := clampI n (vAt vals 7) (vAt vals 8)
def wideI (vals : List Int) (n : Int) : Int := clampI n (vAt vals 5) (vAt vals 6)
theorem high_fn {spec : CallF} (hs : SpecLay spec) {h : H} {n0 b o : Nat} {n : Int} {vals : List Int} (k : Vals h n0 b o vals) (vok : VOk vals) :
  WF Try.prog spec 48 [.one (.p b o), .one (.i .i64 n)] h fun v h1 => v = .one (.i .i64 (highI vals n)) ∧ h1 = h := by
 refine WF_of Try.func48 rfl (hs.s _ _ _) (by rw [Try.ntmps48]; simp) (by rw [Try.ntmps48]; decide) ?_;rw [Try.ntmps48, Try.results48];simp only [Sl.setMany_cons, Sl.setMany_nil, Nat.zero_add, Nat.reduceAdd]
 (repeat refine zS ?_); refine zR ?_
 refine VO ?_;refine zN ?_; (repeat refine zS ?_);refine zR ?_
 iterate 2 (refine VO ?_)
 refine WO_fn (ee) (by simp) Dc ((v_fn hs k (i := 7) (vok.at Om).1).mono ?_);rintro v h1 ⟨rfl, rfl⟩;refine VO ?_;refine WO_fn (ee) (by simp) Dc ((v_fn hs k (i := 8) (vok.at Om).1).mono ?_);rintro v h1 ⟨rfl, rfl⟩;refine WO_fn (ee) (by simp) Dc ((within_fn (hs.s _)).mono ?_);rintro v h1 ⟨rfl, rfl⟩;refine VO ?_;exact zN (W_ret ⟨.inr rfl, _, RbA, rfl, rfl⟩)
theorem wide_fn {spec : CallF} (hs : SpecLay spec) {h : H} {n0 b o : Nat} {n : Int} {vals : List Int} (k : Vals h n0 b o vals) (vok : VOk vals) :
  WF Try.prog spec 55 [.one (.p b o), .one (.i .i64 n)] h fun v h1 => v = .one (.i .i64 (wideI vals n)) ∧ h1 = h := by
 refine WF_of Try.func55 rfl (hs.s _ _ _) (by rw [Try.ntmps55]; simp) (by rw [Try.ntmps55]; decide) ?_;rw [Try.ntmps55, Try.results55];simp only [Sl.setMany_cons, Sl.setMany_nil, Nat.zero_add, Nat.reduceAdd]
 (repeat refine zS ?_); refine zR ?_
 refine VO ?_;refine zN ?_; (repeat refine zS ?_);refine zR ?_
 iterate 2 (refine VO ?_)
 refine WO_fn (ee) (by simp) Dc ((v_fn hs k (i := 5) (vok.at Om).1).mono ?_);rintro v h1 ⟨rfl, rfl⟩;refine VO ?_;refine WO_fn (ee) (by simp) Dc ((v_fn hs k (i := 6) (vok.at Om).1).mono ?_);rintro v h1 ⟨rfl, rfl⟩;refine WO_fn (ee) (by simp) Dc ((within_fn (hs.s _)).mono ?_);rintro v h1 ⟨rfl, rfl⟩;refine VO ?_;exact zN (W_ret ⟨.inr rfl, _, RbA, rfl, rfl⟩)
theorem outer_fn {spec : CallF} (hs : SpecLay spec) {h : H} {n0 b o : Nat} {n : Int} {vals : List Int} (ok : Ok h) (k : Vals h n0 b o vals) (vok : VOk vals) (hn : CO n) :
  WF Try.prog spec 66 [.one (.p b o), .one (.i .i64 n)] h fun v h1 => v = .one (.i .i64 (outI (vAt vals 12) n)) ∧ Up (· < h.next) h h1 ∧ Ok h1 := by
 have hv := (vok.at (i := 12) Om).2.2.2;refine WF_of Try.func66 rfl (hs.s _ _ _) (by rw [Try.ntmps66]; simp) (by rw [Try.ntmps66]; decide) ?_;rw [Try.ntmps66, Try.results66];simp only [Sl.setMany_cons, Sl.setMany_nil, Nat.zero_add, Nat.reduceAdd]
 (repeat refine zS ?_); refine zR ?_
 refine VO ?_;refine zN ?_; (repeat refine zS ?_);refine zR ?_;refine VO ?_;refine WO_fn (ee) (by simp) Dc ((v_fn hs k (i := 12) (vok.at Om).1).mono ?_);rintro v h1 ⟨rfl, rfl⟩;refine VO ?_;refine zN ?_; (repeat refine zS ?_);refine zR ?_
 iterate 3 (refine VO ?_)
 refine WO_bs1 el26 ⟨_, ze26⟩ (ee) ok Dc fun h2 n2 => ?_;refine WO_fn (ee) (by simp) Dc ((plus1 hs hv hv n2.cells).mono ?_);rintro v h3 ⟨rfl, rfl⟩;refine WO_bs1 el26 ⟨_, ze26⟩ (ee) n2.ok Dc fun h4 n4 => ?_;have e2 := n2.next;refine WO_fn (ee) (by simp) Dc ((plus1 hs hn (plI_in _ _) n4.cells).mono ?_);rintro v h5 ⟨rfl, rfl⟩;refine VO ?_;exact zN (W_ret ⟨.inr rfl, _, RbA, rfl, n2.up.trans (n4.up.mono fun b hb => by omega), n4.ok⟩)
end Go.Ai
namespace Go.Ai
open Go.Proofs
theorem plusI_co {a : Int} {l : List Int} (ha : CO a) : CO (plusI a l) := plusI_in ha
def rowI (bt : List Int) : Int → List Int → List Int
 | _, [] => []
 | a, s :: l => a :: rowI bt (plusI (plI a s) bt) l
theorem rowI_len (bt : List Int) : ∀ (l : List Int) (a : Int), (rowI bt a l).length = l.length
 | [], _ => rfl
 | s :: l, a => by show (rowI bt _ l).length + 1 = _; rw [rowI_len]; rfl
theorem rowI_co (bt : List Int) : ∀ (l : List Int) (a : Int), CO a → ∀ x ∈ rowI bt a l, CO x
 | [], _, _, x, h => by cases h
 | s :: l, a, ha, x, h => by
  rcases List.mem_cons.1 h with rfl | h
  ·exact ha
  ·exact rowI_co bt l _ (plusI_co (plI_in _ _)) x h
theorem row_fn {spec : CallF} (hs : SpecLay spec) {h : H} {v : S} {q : Nat} {l bt : List Int} {a : Int} (ok : Ok h) (hi : IntsAt h v l) (hn : l.length ≤ 1000) (hl : ∀ x ∈ l, CO x) (ha : CO a) (hq : Cells h q 3 (nums bt)) (hql : q < h.next) (hbt : ∀ x ∈ bt, CO x) (hbn : bt.length ≤ 2) :
  WF Try.prog spec 79 [.one v, .one (.i .i64 a), .one (.sl q 0 bt.length bt.length 1 true)] h fun r h1 => ∃ x, r = .one x ∧ Grown h1 x h.next 3 1 (nums (rowI bt a l)) ∧ Up (· < h.next) h h1 ∧ Ok h1 := by
 refine WF_of Try.func79 rfl (hs.s _ _ _) (by rw [Try.ntmps79]; simp) (by rw [Try.ntmps79]; decide) ?_;rw [Try.ntmps79, Try.results79];simp only [Sl.setMany_cons, Sl.setMany_nil, Nat.zero_add, Nat.reduceAdd]
 (repeat refine zS ?_); refine zR ?_
 refine VO ?_;refine zN ?_; (repeat refine zS ?_);refine W_scoped ?_
 (repeat refine zS ?_); refine zR ?_
 refine VO ?_;refine zN ?_; (repeat refine zS ?_);refine W_label ?_;refine W_here (fun j T h1 => ∃ k a1 x out, j = l.length - k ∧ k ≤ l.length ∧ out.length = k ∧ out ++ rowI bt a1 (l.drop k) = rowI bt a l ∧ CO a1 ∧ T.get 0 = some (.one v) ∧ T.get 1 = some (.one (.i .i64 a1)) ∧ T.get 2 = some (.one (.sl q 0 bt.length bt.length 1 true)) ∧ T.get 6 = some (.one x) ∧ T.get 7 = some (.one (.i .i64 (k : Int))) ∧ Grown h1 x h.next 3 1 (nums out) ∧ Up (· < h.next) h h1 ∧ Ok h1) ?_ l.length _ _ ⟨0, a, .sl0, [], rfl, by omega, rfl, rfl, ha, gs, gs, gs, gs, gs, .nil, .refl _ _, ok⟩;rintro j T h1 ih ⟨k, a1, x, out, rfl, hk, hol, hout, ha1, t0, t1, t2, t6, t7, gx, u1, o1⟩;have hn1 := u1.next
 (repeat refine zS ?_); refine zR ?_
 iterate 2 (refine VX (Ga2 @t0 @t7) ?_)
 refine zV (hi.len (ee)) Dc ?_
 (refine VX (zB (Gs1 @t7) (Gs1 @t7) in_eql) ?_)
 refine zN ?_; (repeat refine zS ?_);refine zC (ee) (fun he => ?_) (fun he => W_skip ?_)
 ·have he : k = l.length := by simp at he; omega
  (repeat refine zS ?_); refine zR ?_
  iterate 2 (refine VX (Ga1 @t6) ?_)
  refine zN (W_ret ⟨.inr rfl, _, RbA, x, rfl, ?_, u1, o1⟩);rw [he, List.drop_length] at hout;rw [show rowI bt a1 [] = [] from rfl, List.append_nil] at hout;rw [← hout]; exact gx
 ·have hlt : k < l.length := by simp at he; omega
  obtain ⟨y, hy⟩ : ∃ y, l[k]? = some y := ⟨_, List.getElem?_eq_getElem hlt⟩;have hyb := hl y (List.mem_of_getElem? hy)
  obtain ⟨b, c, ex, rfl, hbn', hrows⟩ : ∃ b c ex, v = .sl b 0 l.length c 1 ex ∧ b < h.next ∧ ∀ k x, l[k]? = some x → h.row b k 1 = some [.i .i64 x] := by
   rcases hi with ⟨rfl, _⟩ | q
   ·simp at hlt
   ·exact q
  (repeat refine zS ?_); refine zR ?_
  iterate 2 (refine VX (Ga2 @t1 @t6) ?_)
  refine WO_bs1 el26 ⟨_, ze26⟩ (ee) o1 Dc fun h2 n2 => ?_;have e2 := n2.next;have g2 := gx.up n2.up fun q hq => (gx.lt hq).2
  refine WO_app (n0 := h.next) ap26_26 (Gt1 @t6) (ee) n2.cells rfl g2 n2.ok Om (m := k) (by rw [nums_length]; omega) Om Om Dc fun x3 h3 g3 => ?_;have e3 := g3.next;have u3 : Up (· < h.next) h h3 := (u1.trans (n2.up.mono fun b hb => by omega)).trans (g3.below g2 Om);have r3 : h3.row b k 1 = some [.i .i64 y] := by rw [u3.row hbn']; exact hrows k y hy
  refine VO ?_;refine zN ?_; (repeat refine zS ?_);refine zR ?_
  iterate 3 (refine VX (Ga3 @t0 @t1 @t7) ?_)
  (refine VX (Gd3 @t0 @t1 @t7) ?_)
  (refine VX (Gd4 @r3 @t0 @t1 @t7) ?_)
  refine WO_bs1 el26 ⟨_, ze26⟩ (ee) g3.ok Dc fun h4 n4 => ?_;have e4 := n4.next;refine WO_fn (Gt1 @t1) (by simp) Dc ((plus1 hs ha1 hyb n4.cells).mono ?_);rintro _ h4 ⟨rfl, rfl⟩
  (refine VX (Ga1 @t2) ?_)
  have u4 : Up (· < h.next) h h4 := u3.trans (n4.up.mono fun b hb => by omega);have hq4 := u4.cells hql hq;refine WO_fn (Gt1 @t2) (by simp) Dc ((plus_fn (hs.s _) (hs.s _) (l := bt) (plI_in a1 y) hbt Om (fun k x hx => hq4.at1 (nums_get hx))).mono ?_);rintro _ h4 ⟨rfl, rfl⟩;refine VO ?_;refine zN ?_; (repeat refine zS ?_);refine zR ?_
  iterate 3 (first | (refine VX (zB (Gs1 @t7) (Gs1 @t7) zA) ?_; (try rw [zI Om Om])) | (refine VX (Ga1 @t7) ?_))
  refine zN ?_; (repeat refine zS ?_);refine W_goto ?_; (repeat first | refine thenQ_goto ?_ | refine blockQ_goto ?_); refine scope_jump (by rfl) ?_; (repeat refine zS ?_);refine W_skip ?_;refine ih (l.length - (k + 1)) Om _ _ ⟨k + 1, plusI (plI a1 y) bt, x3, out ++ [a1], rfl, hlt, by simp [hol], ?_, plusI_co (plI_in _ _), gt t0, gs, gt t2, gs, gs, ?_, u4, n4.ok⟩
  ·rw [← hout]
   have hd : l.drop k = y :: l.drop (k + 1) := by
    obtain ⟨hk', rfl⟩ := gEi.1 hy;exact List.drop_eq_getElem_cons hk'
   rw [hd, List.append_assoc]; rfl
  ·have g4 := g3.grown.up n4.up fun q hq => (g3.grown.lt hq).2
   exact g4.same (by rw [nums_append]; rfl)
theorem pile_fn {spec : CallF} (hs : SpecLay spec) {h : H} {v : S} {l : List Int} {gap : Int} (ok : Ok h) (hi : IntsAt h v l) (hn : l.length ≤ 1000) (hl : ∀ x ∈ l, CO x) (hg : CO gap) :
  WF Try.prog spec 67 [.one v, .one (.i .i64 gap)] h fun r h1 => ∃ x, r = .one x ∧ Grown h1 x h.next 3 1 (nums (rowI [gap] 0 l)) ∧ Up (· < h.next) h h1 ∧ Ok h1 := by
 refine WF_of Try.func67 rfl (hs.s _ _ _) (by rw [Try.ntmps67]; simp) (by rw [Try.ntmps67]; decide) ?_;rw [Try.ntmps67, Try.results67];simp only [Sl.setMany_cons, Sl.setMany_nil, Nat.zero_add, Nat.reduceAdd]
 (repeat refine zS ?_); refine zR ?_
 refine VO ?_;refine zN ?_; (repeat refine zS ?_);refine zR ?_
 iterate 2 (refine VO ?_)
 refine WO_bs1 el26 ⟨_, ze26⟩ (ee) ok Dc fun h1 n1 => ?_;have e1 := n1.next;refine WO_fn (ee) (by simp) Dc ((row_fn hs n1.ok (hi.upLt n1.up) hn hl (by unfold CO; omega) (bt := [gap]) n1.cells Om (by simpa using hg) (by simp)).mono ?_);rintro r h2 ⟨x, rfl, g2, u2, o2⟩;refine VO ?_;refine zN (W_ret ⟨.inr rfl, _, RbA, x, rfl, ?_, n1.up.trans (u2.mono fun b hb => by omega), o2⟩);rcases g2 with q | ⟨q, n, rfl, p1, p2, p3, p4, p5, p6⟩
 ·exact .inl q
 ·exact .inr ⟨q, n, rfl, p1, p2, p3, p4, by omega, p6⟩
def spreadI (n : Nat) (rest how : Int) : Int × Int :=
 if how = 1 then (rest, 0) else if how = 2 then (rest / 2, 0) else if how = 3 then (if 1 < n then (0, rest / ((n : Int) - 1)) else (0, 0)) else if how = 4 then (if 0 < n then (rest / (n : Int) / 2, rest / (n : Int)) else (0, 0)) else (0, 0)
theorem div_co {a c : Int} (ha : 0 ≤ a ∧ a ≤ 1099511627776) (hc : 0 < c) : 0 ≤ a / c ∧ a / c ≤ 1099511627776 := by
 refine ⟨Int.ediv_nonneg ha.1 Om, ?_⟩;have := Int.ediv_le_self c ha.1;omega
theorem spreadI_co {n : Nat} {rest how : Int} (hr : 0 ≤ rest ∧ rest ≤ 1099511627776) : CO (spreadI n rest how).1 ∧ CO (spreadI n rest how).2 := by
 have h2 := div_co hr (c := 2) Om;unfold spreadI CO;split
 ·exact ⟨by show _ ≤ rest ∧ rest ≤ _; omega, by show (_ : Int) ≤ 0 ∧ (0 : Int) ≤ _; omega⟩
 split
 ·exact ⟨by show _ ≤ rest / 2 ∧ rest / 2 ≤ _; omega, by show (_ : Int) ≤ 0 ∧ (0 : Int) ≤ _; omega⟩
 split
 ·split
  ·have h3 := div_co hr (c := (n : Int) - 1) Om;exact ⟨by show (_ : Int) ≤ 0 ∧ (0 : Int) ≤ _; omega, by show _ ≤ rest / ((n : Int) - 1) ∧ rest / ((n : Int) - 1) ≤ _; omega⟩
  ·exact ⟨by show (_ : Int) ≤ 0 ∧ (0 : Int) ≤ _; omega, by show (_ : Int) ≤ 0 ∧ (0 : Int) ≤ _; omega⟩
 split
 ·split
  ·have h3 := div_co hr (c := (n : Int)) Om;have h4 := div_co h3 (c := 2) Om;exact ⟨by show _ ≤ rest / (n : Int) / 2 ∧ rest / (n : Int) / 2 ≤ _; omega, by show _ ≤ rest / (n : Int) ∧ rest / (n : Int) ≤ _; omega⟩
  ·exact ⟨by show (_ : Int) ≤ 0 ∧ (0 : Int) ≤ _; omega, by show (_ : Int) ≤ 0 ∧ (0 : Int) ≤ _; omega⟩
 ·exact ⟨by show (_ : Int) ≤ 0 ∧ (0 : Int) ≤ _; omega, by show (_ : Int) ≤ 0 ∧ (0 : Int) ≤ _; omega⟩
theorem wrap_div {a c : Int} (ha : 0 ≤ a ∧ a ≤ 1099511627776) (hc : 0 < c) : IntKind.i64.wrap (a.tdiv c) = a / c := by
 rw [Int.tdiv_eq_ediv_of_nonneg ha.1];have := div_co ha hc;exact zI Om Om
end Go.Ai
