/-
LayoutWraps, part 22 of 48: FxSmall FxSizes FxSum.
-/
import Derived.Test.YthacbaagffpkoaaLw21
set_option linter.unusedVariables false
set_option linter.unusedSimpArgs false
set_option maxRecDepth 100000
set_option maxHeartbeats 0
namespace Go.Ai
open Go.Proofs
def clampI (x lo hi : Int) : Int := max lo (if hi = -1 then x else min x hi)
def satI (n : Int) : Int := min (max n (-1099511627776)) 1099511627776
def plusI : Int → List Int → Int
 | a, [] => a
 | a, x :: l => plusI (satI (a + x)) l
theorem within_fn {spec : CallF} (hs : ∀ args h, spec 59 args h = none) {h : H} {x lo hi : Int} :
  WF Try.prog spec 59 [.one (.i .i64 x), .one (.i .i64 lo), .one (.i .i64 hi)] h fun v h1 => v = .one (.i .i64 (clampI x lo hi)) ∧ h1 = h := by
 refine WF_of Try.func59 rfl (hs _ _) (by rw [Try.ntmps59]; simp) (by rw [Try.ntmps59]; decide) ?_;rw [Try.ntmps59, Try.results59];simp only [Sl.setMany_cons, Sl.setMany_nil, Nat.zero_add, Nat.reduceAdd]
 (repeat refine zS ?_); refine zR ?_
 repeat (first
   | (refine zV Gd0 Dc ?_)
   | (refine zV (zB Gs0 Gs0 in_neq) Dc ?_)
   | (refine zV (ex_min Gs0 Gs0) Dc ?_)
   | (refine zV (ex_max Gs0 Gs0) Dc ?_))
 refine zN ?_; (repeat refine zS ?_);refine zR ?_
 repeat (first
   | (refine zV Gd0 Dc ?_)
   | (refine zV (zB Gs0 Gs0 in_neq) Dc ?_)
   | (refine zV (ex_min Gs0 Gs0) Dc ?_)
   | (refine zV (ex_max Gs0 Gs0) Dc ?_))
 refine zN ?_; (repeat refine zS ?_);refine zC (ee) (fun hg => ?_) (fun hg => ?_)
 ·have hg : hi ≠ -1 := by simpa using hg
  refine zR ?_
  repeat (first
   | (refine zV Gd0 Dc ?_)
   | (refine zV (zB Gs0 Gs0 in_neq) Dc ?_)
   | (refine zV (ex_min Gs0 Gs0) Dc ?_)
   | (refine zV (ex_max Gs0 Gs0) Dc ?_))
  refine zN ?_; (repeat refine zS ?_);refine zR ?_
  repeat (first
   | (refine zV Gd0 Dc ?_)
   | (refine zV (zB Gs0 Gs0 in_neq) Dc ?_)
   | (refine zV (ex_min Gs0 Gs0) Dc ?_)
   | (refine zV (ex_max Gs0 Gs0) Dc ?_))
  refine zN (W_ret ⟨.inr rfl, _, RbA, ?_, rfl⟩);unfold clampI; rw [if_neg hg]
 ·have hg : hi = -1 := by simpa using hg
  refine W_skip ?_
  repeat refine zS ?_
  refine zR ?_
  repeat (first
   | (refine zV Gd0 Dc ?_)
   | (refine zV (zB Gs0 Gs0 in_neq) Dc ?_)
   | (refine zV (ex_min Gs0 Gs0) Dc ?_)
   | (refine zV (ex_max Gs0 Gs0) Dc ?_))
  refine zN (W_ret ⟨.inr rfl, _, RbA, ?_, rfl⟩);unfold clampI; rw [if_pos hg]
theorem sat_fn {spec : CallF} (hs : ∀ args h, spec 60 args h = none) {h : H} {x : Int} :
  WF Try.prog spec 60 [.one (.i .i64 x)] h fun v h1 => v = .one (.i .i64 (satI x)) ∧ h1 = h := by
 refine WF_of Try.func60 rfl (hs _ _) (by rw [Try.ntmps60]; simp) (by rw [Try.ntmps60]; decide) ?_;rw [Try.ntmps60, Try.results60];simp only [Sl.setMany_cons, Sl.setMany_nil, Nat.zero_add, Nat.reduceAdd]
 (repeat refine zS ?_); refine zR ?_
 repeat (first
   | (refine zV Gd0 Dc ?_)
   | (refine zV (ex_min Gs0 Gs0) Dc ?_)
   | (refine zV (ex_max Gs0 Gs0) Dc ?_))
 refine zN ?_; (repeat refine zS ?_);refine zR ?_
 repeat (first
   | (refine zV Gd0 Dc ?_)
   | (refine zV (ex_min Gs0 Gs0) Dc ?_)
   | (refine zV (ex_max Gs0 Gs0) Dc ?_))
 exact zN (W_ret ⟨.inr rfl, _, RbA, rfl, rfl⟩)
theorem satI_in (n : Int) : -1099511627776 ≤ satI n ∧ satI n ≤ 1099511627776 := by unfold satI; omega
theorem plusI_take {a : Int} {l : List Int} {k : Nat} {x : Int} (hx : l[k]? = some x) : plusI a (l.take (k + 1)) = satI (plusI a (l.take k) + x) := by
 obtain ⟨hk, rfl⟩ := gEi.1 hx;rw [List.take_succ_eq_append_getElem hk]
 have : ∀ (a : Int) (l : List Int) (x : Int), plusI a (l ++ [x]) = satI (plusI a l + x) := by
  intro a l x
  induction l generalizing a with
  | nil => rfl
  | cons y l ih => exact ih _
 exact this _ _ _
theorem plusI_in {a : Int} {l : List Int} (ha : -1099511627776 ≤ a ∧ a ≤ 1099511627776) : -1099511627776 ≤ plusI a l ∧ plusI a l ≤ 1099511627776 := by
 induction l generalizing a with
 | nil => exact ha
 | cons x l ih => exact ih (satI_in _)
theorem plus_fn {spec : CallF} (hs : ∀ args h, spec 49 args h = none) (hs2 : ∀ args h, spec 60 args h = none) {h : H} {q c sz : Nat} {ex : Bool} {a : Int} {l : List Int} (ha : -1099511627776 ≤ a ∧ a ≤ 1099511627776) (hl : ∀ x ∈ l, -1099511627776 ≤ x ∧ x ≤ 1099511627776) (hn : l.length ≤ 1000) (hr : ∀ k x, l[k]? = some x → h.row q k 1 = some [.i .i64 x]) :
  WF Try.prog spec 49 [.one (.i .i64 a), .one (.sl q 0 l.length c sz ex)] h fun v h1 => v = .one (.i .i64 (plusI a l)) ∧ h1 = h := by
 refine WF_of Try.func49 rfl (hs _ _) (by rw [Try.ntmps49]; simp) (by rw [Try.ntmps49]; decide) ?_;rw [Try.ntmps49, Try.results49];simp only [Sl.setMany_cons, Sl.setMany_nil, Nat.zero_add, Nat.reduceAdd]
 (repeat refine zS ?_); refine zR ?_
 repeat (first
   | (refine zV Gd0 Dc ?_)
   | (refine zV (zB Gs0 Gs0 (by first | exact zA | exact zL)) Dc ?_; (try rw [zI Om Om]))
   | (refine zV (ex_len el26 Gs0) Dc ?_))
 refine zN ?_; (repeat refine zS ?_);refine W_scoped ?_
 repeat refine zS ?_
 (repeat refine zS ?_); refine zR ?_
 repeat (first
   | (refine zV Gd0 Dc ?_)
   | (refine zV (zB Gs0 Gs0 (by first | exact zA | exact zL)) Dc ?_; (try rw [zI Om Om]))
   | (refine zV (ex_len el26 Gs0) Dc ?_))
 refine zN ?_; (repeat refine zS ?_);refine W_label ?_;refine W_here (fun j T h1 => h1 = h ∧ ∃ k, j = l.length - k ∧ k ≤ l.length ∧ T.get 0 = some (.one (.i .i64 (plusI a (l.take k)))) ∧ T.get 1 = some (.one (.sl q 0 l.length c sz ex)) ∧ T.get 5 = some (.one (.i .i64 (k : Int)))) ?_ l.length _ _ ⟨rfl, 0, rfl, Nat.zero_le _, by (simp only [go_sem, ↓reduceIte, Nat.reduceEqDiff, List.take_zero, plusI] <;> first | rfl | simp), gs, gs⟩;rintro j T h1 ih ⟨rfl, k, rfl, hk, t0, t1, t5⟩
 (repeat refine zS ?_); refine zR ?_
 repeat (first
   | (refine zV (Gd3 @t0 @t1 @t5) Dc ?_)
   | (refine zV (zB (Gs3 @t0 @t1 @t5) (Gs3 @t0 @t1 @t5) (by first | exact zA | exact zL)) Dc ?_; (try rw [zI Om Om]))
   | (refine zV (ex_len el26 (Gs3 @t0 @t1 @t5)) Dc ?_))
 refine zN ?_; (repeat refine zS ?_);have hp := plusI_in (l := l.take k) ha;refine zC (ee) (fun hlt => ?_) (fun hge => ?_)
 ·have hlt : (k : Int) < (l.length : Int) := by simpa using hlt
  have hlt : k < l.length := by omega
  obtain ⟨x, hx⟩ : ∃ x, l[k]? = some x := ⟨_, List.getElem?_eq_getElem hlt⟩;have hxb := hl x (List.mem_of_getElem? hx);have r1 := hr k x hx
  (repeat refine zS ?_); refine zR ?_
  repeat (first
   | (refine zV (Gd4 @r1 @t0 @t1 @t5) Dc ?_)
   | (refine zV (zB (Gs3 @t0 @t1 @t5) (Gs3 @t0 @t1 @t5) (by first | exact zA | exact zL)) Dc ?_; (try rw [zI Om Om]))
   | (refine zV (ex_len el26 (Gs3 @t0 @t1 @t5)) Dc ?_))
  refine WO_fn (ee) (by simp) Dc ((sat_fn hs2).mono ?_);rintro v h2 ⟨rfl, rfl⟩
  repeat (first
   | (refine zV Gd0 Dc ?_)
   | (refine zV (zB Gs0 Gs0 (by first | exact zA | exact zL)) Dc ?_; (try rw [zI Om Om]))
   | (refine zV (ex_len el26 Gs0) Dc ?_))
  refine zN ?_; (repeat refine zS ?_);refine zR ?_
  repeat (first
   | (refine zV (Gd1 @t5) Dc ?_)
   | (refine zV (zB (Gs1 @t5) (Gs1 @t5) (by first | exact zA | exact zL)) Dc ?_; (try rw [zI Om Om]))
   | (refine zV (ex_len el26 (Gs1 @t5)) Dc ?_))
  refine zN ?_; (repeat refine zS ?_);refine W_goto ?_; (repeat first | refine thenQ_goto ?_ | refine blockQ_goto ?_); refine scope_jump (by rfl) ?_; (repeat refine zS ?_);refine W_skip ?_;exact ih (l.length - (k + 1)) Om _ _ ⟨rfl, k + 1, rfl, hlt, by simp only [go_sem, ↓reduceIte, Nat.reduceEqDiff, plusI_take hx], gt t1, gs⟩
 ·have hge : ¬ (k : Int) < (l.length : Int) := by simpa using hge
  have hk : k = l.length := by omega
  subst hk;rw [List.take_length] at t0;refine W_skip ?_
  repeat refine zS ?_
  refine zR ?_
  repeat (first
   | (refine zV (Gd1 @t0) Dc ?_)
   | (refine zV (zB (Gs1 @t0) (Gs1 @t0) (by first | exact zA | exact zL)) Dc ?_; (try rw [zI Om Om]))
   | (refine zV (ex_len el26 (Gs1 @t0)) Dc ?_))
  exact zN (W_ret ⟨.inr rfl, _, RbA, rfl, rfl⟩)
end Go.Ai
namespace Go.Ai
open Go.Proofs
def Itm.plain (x : Itm) : Int := clampI x.base x.mn x.mx
def plains (L : List Itm) : List Int := L.map Itm.plain
theorem Itm.ok.plain {x : Itm} (k : x.ok) : 0 ≤ x.plain ∧ x.plain ≤ 1099511627776 := by
 have := k.base; have := k.mn; have := k.mx;unfold Itm.plain clampI; split <;> omega
theorem ex_lenL {P : Program} {T : Sl} {h : H} {t e n : Nat} {x : Operand} (ht : elemAt P t = some (e, n)) (hx : ev T x = some (.one (.lsl (Lin.num 0)))) {d : Option Tmp} {ty : TypeId} {ps : String} {af : Array Edge} {g : Option (Nat × Bool)} : execO P T h ⟨d, .call ⟨.builtin .len, #[x], #[t]⟩, ty, ps, af, g⟩ = some (.val (.one (.i .i64 ((0 : Nat) : Int))) h) := by
 have hu : ∃ e', P.underlying t = some (.slice e') := by
  unfold elemAt at ht;split at ht
  ·rename_i e' hu; exact ⟨e', hu⟩
  ·cases ht
 obtain ⟨e', hu⟩ := hu;show orPure P T h _ (doLen P h t (ev T x)) = _;rw [hx]
 have hp : pureOp P T h ⟨d, .call ⟨.builtin .len, #[x], #[t]⟩, ty, ps, af, g⟩ = none := by
  have ha : allConc T [x] = false := by simp only [allConc, evc, hx]; rfl
  show cond (allConc T [x]) _ none = none;rw [ha]; rfl
 have hs : symV h.kn P T ⟨d, .call ⟨.builtin .len, #[x], #[t]⟩, ty, ps, af, g⟩ = some (.one (.i .i64 ((0 : Nat) : Int))) := by
  show symC h.kn P T ⟨.builtin .len, #[x], #[t]⟩ = _;have he : evs T [x] = some [.one (.lsl (Lin.num 0))] := by simp only [evs, hx]
  have hc : symC h.kn P T ⟨.builtin .len, #[x], #[t]⟩ = symB h.kn P .len [.one (.lsl (Lin.num 0))] [t] := by
   unfold symC;simp only [he]
  rw [hc]
  show (match P.underlying t with
   | some (.slice _) => cond (inR .i64 (Lin.num 0)) (some (mkY .i64 (Lin.num 0))) none
   | _ => none) = _
  rw [hu];rfl
 unfold orPure;simp only [doLen, hp, hs]
def ItemsAt (h : H) (v : S) (L : List Itm) : Prop := (L = [] ∧ (v = .sl0 ∨ v = .lsl (Lin.num 0))) ∨ ∃ b o c ex, v = .sl b o L.length c 5 ex ∧ b < h.next ∧ ∀ k x, L[k]? = some x → h.row b (o + k * 5) 5 = some x.cells
theorem ItemsAt.up {h h1 : H} {v : S} {L : List Itm} (k : ItemsAt h v L) {p : Nat → Prop} (u : Up p h h1) (hp : ∀ b, S.blk v = some b → p b) : ItemsAt h1 v L := by
 rcases k with k | ⟨b, o, c, ex, rfl, h1, h2⟩
 ·exact .inl k
 ·exact .inr ⟨b, o, c, ex, rfl, Nat.lt_of_lt_of_le h1 u.next, fun i x hx => by rw [u.row (hp b rfl)]; exact h2 i x hx⟩
theorem ItemsAt.upLt {h h1 : H} {v : S} {L : List Itm} (k : ItemsAt h v L) (u : Up (· < h.next) h h1) : ItemsAt h1 v L := by
 refine k.up u fun b hb => ?_;rcases k with ⟨_, rfl | rfl⟩ | ⟨b', o, c, ex, rfl, h1, h2⟩
 ·cases hb
 ·cases hb
 ·cases hb; exact h1
theorem ItemsAt.len {h h1 : H} {v : S} {L : List Itm} (hi : ItemsAt h v L) {T : Sl} {x : Operand} (hx : ev T x = some (.one v)) {d : Option Tmp} {ty : TypeId} {ps : String} {af : Array Edge} {g : Option (Nat × Bool)} : execO Try.prog T h1 ⟨d, .call ⟨.builtin .len, #[x], #[107]⟩, ty, ps, af, g⟩ = some (.val (.one (.i .i64 (L.length : Int))) h1) := by
 rcases hi with ⟨rfl, rfl | rfl⟩ | ⟨b, o, c, ex, rfl, _⟩
 ·exact ex_len0 el107 hx
 ·exact ex_lenL el107 hx
 ·exact ex_len el107 hx
theorem size_fn {spec : CallF} (hs : ∀ args h, spec 89 args h = none) (hs2 : ∀ args h, spec 59 args h = none) {h : H} {x : Itm} (ok : Ok h) :
  WF Try.prog spec 89 [.agg x.cells] h fun v h1 => v = .one (.i .i64 x.plain) ∧ Up (· < h.next) h h1 ∧ h1.next = h.next + 1 ∧ Ok h1 := by
 refine WF_of Try.func89 rfl (hs _ _) (by rw [Try.ntmps89]; simp) (by rw [Try.ntmps89]; decide) ?_;rw [Try.ntmps89, Try.results89];simp only [Sl.setMany_cons, Sl.setMany_nil, Nat.zero_add, Nat.reduceAdd]
 (repeat refine zS ?_); refine zR ?_
 refine WO_boxA (ee) ok Dc fun h1 n1 => ?_;have c1 := n1.cells;unfold Itm.cells at c1
 repeat (first
   | (refine zV Gd0 Dc ?_))
 refine zN ?_; (repeat refine zS ?_);refine zR ?_
 repeat (first
   | (refine zV (Gd1 @c1.row) Dc ?_))
 refine WO_fn (ee) (by simp) Dc ((within_fn hs2).mono ?_);rintro v h2 ⟨rfl, rfl⟩
 repeat (first
   | (refine zV Gd0 Dc ?_))
 exact zN (W_ret ⟨.inr rfl, _, RbA, rfl, n1.up, n1.next, n1.ok⟩)
theorem plains_take {L : List Itm} {k : Nat} {y : Itm} (hy : L[k]? = some y) : plains (L.take (k + 1)) = plains (L.take k) ++ [y.plain] := by
 obtain ⟨hk, rfl⟩ := gEi.1 hy;rw [List.take_succ_eq_append_getElem hk];unfold plains;rw [List.map_append]; rfl
theorem nums_append (l m : List Int) : nums (l ++ m) = nums l ++ nums m := by simp [nums]
theorem nums_length (l : List Int) : (nums l).length = l.length := by simp [nums]
theorem sizes_fn {spec : CallF} (hs : ∀ args h, spec 76 args h = none) (hs1 : ∀ args h, spec 89 args h = none) (hs2 : ∀ args h, spec 59 args h = none) {h : H} {v : S} {L : List Itm} (ok : Ok h) (hi : ItemsAt h v L) (hn : L.length ≤ 1000) :
  WF Try.prog spec 76 [.one v] h fun r h1 => ∃ x, r = .one x ∧ Grown h1 x h.next 3 1 (nums (plains L)) ∧ Up (· < h.next) h h1 ∧ Ok h1 := by
 refine WF_of Try.func76 rfl (hs _ _) (by rw [Try.ntmps76]; simp) (by rw [Try.ntmps76]; decide) ?_;rw [Try.ntmps76, Try.results76];simp only [Sl.setMany_cons, Sl.setMany_nil, Nat.zero_add, Nat.reduceAdd]
 (repeat refine zS ?_); refine zR ?_
 repeat (first
   | (refine zV Gd0 Dc ?_)
   | (refine zV (zB Gs0 Gs0 (by first | exact zA | exact zL)) Dc ?_; (try rw [zI Om Om]))
   | (refine zV (ex_len el107 Gs0) Dc ?_))
 refine zN ?_; (repeat refine zS ?_);refine zR ?_
 repeat (first
   | (refine zV Gd0 Dc ?_)
   | (refine zV (zB Gs0 Gs0 (by first | exact zA | exact zL)) Dc ?_; (try rw [zI Om Om]))
   | (refine zV (ex_len el107 Gs0) Dc ?_))
 refine zV (hi.len (ee)) Dc ?_
 repeat (first
   | (refine zV Gd0 Dc ?_)
   | (refine zV (zB Gs0 Gs0 (by first | exact zA | exact zL)) Dc ?_; (try rw [zI Om Om]))
   | (refine zV (ex_len el107 Gs0) Dc ?_))
 refine zN ?_; (repeat refine zS ?_);refine zK (W_rounds (fun j T h1 => ∃ k x, j = L.length - k ∧ k ≤ L.length ∧ T.get 2 = some (.one x) ∧ T.get 5 = some (.one v) ∧ T.get 6 = some (.one (.i .i64 (L.length : Int))) ∧ T.get 7 = some (.one (.i .i64 (k : Int))) ∧ Grown h1 x h.next 3 1 (nums (plains (L.take k))) ∧ Up (· < h.next) h h1 ∧ Ok h1) ?_ L.length _ _ ?_);rotate_left
 ·exact ⟨0, .sl0, rfl, Nat.zero_le _, gs, gs, gs, gs, .nil, .refl _ _, ok⟩
 rintro j T h1 ⟨k, x, rfl, hk, t2, t5, t6, t7, gx, u1, o1⟩
 (repeat refine zS ?_); refine zR ?_
 repeat (first
   | (refine zV (Gd2 @t6 @t7) Dc ?_)
   | (refine zV (zB (Gs2 @t6 @t7) (Gs2 @t6 @t7) (by first | exact zA | exact zL)) Dc ?_; (try rw [zI Om Om]))
   | (refine zV (ex_len el107 (Gs2 @t6 @t7)) Dc ?_))
 refine zN ?_; (repeat refine zS ?_);refine zC (ee) (fun hlt => W_skip ?_) (fun hge => W_exit ?_)
 ·have hlt : (k : Int) < (L.length : Int) := by simpa using hlt
  have hlt : k < L.length := by omega
  obtain ⟨b, o, c, ex, rfl, hbn, hrows⟩ : ∃ b o c ex, v = .sl b o L.length c 5 ex ∧ b < h.next ∧ ∀ k x, L[k]? = some x → h.row b (o + k * 5) 5 = some x.cells := by
   rcases hi with ⟨rfl, _⟩ | q
   ·simp at hlt
   ·exact q
  obtain ⟨y, hy⟩ : ∃ y, L[k]? = some y := ⟨_, List.getElem?_eq_getElem hlt⟩;have r1 : h1.row b (o + k * 5) 5 = some y.cells := by rw [u1.row hbn]; exact hrows k y hy
  have hn1 := u1.next
  repeat refine zS ?_
  refine zK ?_
  (repeat refine zS ?_); refine zR ?_
  repeat (first
   | (refine zV (Gd4 @r1 @t5 @t6 @t7) Dc ?_)
   | (refine zV (zB (Gs3 @t5 @t6 @t7) (Gs3 @t5 @t6 @t7) (by first | exact zA | exact zL)) Dc ?_; (try rw [zI Om Om]))
   | (refine zV (ex_len el107 (Gs3 @t5 @t6 @t7)) Dc ?_))
  refine WO_alloc zb109 rfl o1 Dc fun h2 n2 => ?_;refine WO_storeA (ee) (ee) sz109 rfl (by simp [Itm.cells]) n2.cells n2.may (by simp [Itm.cells, V.cells]) fun h3 p3 => ?_;have c3 := p3.cells;simp only [Itm.cells, V.cells, List.take_zero, List.nil_append, List.length_cons, List.length_nil, Nat.reduceAdd, Nat.zero_add, List.drop_succ_cons, List.drop_zero, List.append_nil] at c3;have u3 : Up (· < h1.next) h1 h3 := n2.up.trans (p3.up.mono fun b hb => by omega);have o3 := p3.ok n2.ok;have e3 : h3.next = h1.next + 1 := by rw [p3.next, n2.next]
  have r4 : h3.row h1.next 0 5 = some y.cells := by rw [c3.row (by simp)]; rfl
  refine zN ?_; (repeat refine zS ?_);refine zR ?_
  repeat (first
   | (refine zV (Gd2 @r4 @t2) Dc ?_)
   | (refine zV (zB (Gs1 @t2) (Gs1 @t2) (by first | exact zA | exact zL)) Dc ?_; (try rw [zI Om Om]))
   | (refine zV (ex_len el107 (Gs1 @t2)) Dc ?_))
  refine WO_fn (ee) (by simp) Dc ((size_fn hs1 hs2 o3).mono ?_);rintro w4 h4 ⟨rfl, u4, e4, o4⟩;refine WO_bs1 el26 ⟨_, ze26⟩ (ee) o4 Dc fun h5 n5 => ?_;have u5 : Up (· < h1.next) h1 h5 := (u3.trans (u4.mono fun b hb => by omega)).trans (n5.up.mono fun b hb => by omega);have g5 := gx.up u5 fun q hq => (gx.lt hq).2
  have e5 := n5.next;refine WO_app (n0 := h.next) ap26_26 (Gt1 @t2) (ee) n5.cells rfl g5 n5.ok Om (m := (L.take k).length) (by simp [nums, plains]) (by simp; omega) (by simp; omega) Dc fun x6 h6 g6 => ?_
  repeat (first
   | (refine zV Gd0 Dc ?_)
   | (refine zV (zB Gs0 Gs0 (by first | exact zA | exact zL)) Dc ?_; (try rw [zI Om Om]))
   | (refine zV (ex_len el107 Gs0) Dc ?_))
  refine zN ?_; (repeat refine zS ?_);refine zR ?_
  repeat (first
   | (refine zV (Gd1 @t7) Dc ?_)
   | (refine zV (zB (Gs1 @t7) (Gs1 @t7) (by first | exact zA | exact zL)) Dc ?_; (try rw [zI Om Om]))
   | (refine zV (ex_len el107 (Gs1 @t7)) Dc ?_))
  refine zN ?_;have e := plains_take hy;exact ⟨L.length - (k + 1), by omega, k + 1, x6, rfl, hlt, gs, gt t5, gt t6, gs, g6.grown.same (by rw [e, nums_append]; rfl), (u1.trans (u5.mono fun b hb => by omega)).trans (g6.below g5 Om), g6.ok⟩
 ·have hge : ¬ (k : Int) < (L.length : Int) := by simpa using hge
  have hk : k = L.length := by omega
  subst hk;refine ⟨fun _ => ?_, fun hne => absurd rfl hne⟩
  (repeat refine zS ?_); refine zR ?_
  repeat (first
   | (refine zV (Gd1 @t2) Dc ?_)
   | (refine zV (zB (Gs1 @t2) (Gs1 @t2) (by first | exact zA | exact zL)) Dc ?_; (try rw [zI Om Om]))
   | (refine zV (ex_len el107 (Gs1 @t2)) Dc ?_))
  exact zN (W_ret ⟨.inr rfl, _, RbA, x, rfl, gx.same (by rw [List.take_length]), u1, o1⟩)
end Go.Ai
namespace Go.Ai
open Go.Proofs
def IntsAt (h : H) (v : S) (l : List Int) : Prop := (l = [] ∧ v = .sl0) ∨ ∃ b c ex, v = .sl b 0 l.length c 1 ex ∧ b < h.next ∧ ∀ k x, l[k]? = some x → h.row b k 1 = some [.i .i64 x]
theorem IntsAt.up {h h1 : H} {v : S} {l : List Int} (k : IntsAt h v l) {p : Nat → Prop} (u : Up p h h1) (hp : ∀ b, S.blk v = some b → p b) : IntsAt h1 v l := by
 rcases k with k | ⟨b, c, ex, rfl, h1, h2⟩
 ·exact .inl k
 ·exact .inr ⟨b, c, ex, rfl, Nat.lt_of_lt_of_le h1 u.next, fun i x hx => by rw [u.row (hp b rfl)]; exact h2 i x hx⟩
theorem IntsAt.upLt {h h1 : H} {v : S} {l : List Int} (k : IntsAt h v l) (u : Up (· < h.next) h h1) : IntsAt h1 v l := by
 refine k.up u fun b hb => ?_;rcases k with ⟨_, rfl⟩ | ⟨b', c, ex, rfl, h1, h2⟩
 ·cases hb
 ·cases hb; exact h1
theorem nums_get {l : List Int} {k : Nat} {x : Int} (hx : l[k]? = some x) : (nums l)[k]? = some (.i .i64 x) := by simp [nums, hx]
theorem Grown.ints {h : H} {v : S} {n0 e : Nat} {l : List Int} (k : Grown h v n0 e 1 (nums l)) : IntsAt h v l := by
 rcases k with ⟨h1, h2⟩ | ⟨q, n, rfl, h1, h2, h3, h4, h5, h6⟩
 ·exact .inl ⟨by simpa [nums] using h1, h2⟩
 ·have : n = l.length := by rw [nums_length] at h2; omega
  subst this;exact .inr ⟨q, l.length, false, rfl, h6, fun i x hx => h3.at1 (nums_get hx)⟩
def lineF (gap : Int) (p : Bool × Int) (x : Int) : Bool × Int := (true, satI ((if p.1 then satI (p.2 + gap) else p.2) + x))
def sumI (l : List Int) (gap : Int) : Int := (l.foldl (lineF gap) (false, 0)).2
theorem lineF_take {gap : Int} {l : List Int} {k : Nat} {x : Int} (hx : l[k]? = some x) : (l.take (k + 1)).foldl (lineF gap) (false, 0) = lineF gap ((l.take k).foldl (lineF gap) (false, 0)) x := by
 obtain ⟨hk, rfl⟩ := gEi.1 hx;rw [List.take_succ_eq_append_getElem hk, List.foldl_append]; rfl
theorem lineF_fst (gap : Int) : ∀ (l : List Int) (p : Bool × Int), l ≠ [] → (l.foldl (lineF gap) p).1 = true
 | [x], p, _ => rfl
 | x :: y :: l, p, _ => lineF_fst gap (y :: l) _ (by simp)
theorem lineF_in {gap : Int} {l : List Int} {p : Bool × Int} (hp : -1099511627776 ≤ p.2 ∧ p.2 ≤ 1099511627776) : -1099511627776 ≤ (l.foldl (lineF gap) p).2 ∧ (l.foldl (lineF gap) p).2 ≤ 1099511627776 := by
 induction l generalizing p with
 | nil => exact hp
 | cons x l ih => exact ih (satI_in _)
theorem sum_fn {spec : CallF} (hs : ∀ args h, spec 87 args h = none) (hs1 : ∀ args h, spec 49 args h = none) (hs2 : ∀ args h, spec 60 args h = none) {h : H} {v : S} {l : List Int} {gap : Int} (ok : Ok h) (hi : IntsAt h v l) (hn : l.length ≤ 1000) (hl : ∀ x ∈ l, -1099511627776 ≤ x ∧ x ≤ 1099511627776) (hgap : -1099511627776 ≤ gap ∧ gap ≤ 1099511627776) :
  WF Try.prog spec 87 [.one v, .one (.i .i64 gap)] h fun r h1 => r = .one (.i .i64 (sumI l gap)) ∧ Up (· < h.next) h h1 ∧ Ok h1 := by
 refine WF_of Try.func87 rfl (hs _ _) (by rw [Try.ntmps87]; simp) (by rw [Try.ntmps87]; decide) ?_;rw [Try.ntmps87, Try.results87];simp only [Sl.setMany_cons, Sl.setMany_nil, Nat.zero_add, Nat.reduceAdd]
 (repeat refine zS ?_); refine zR ?_
 repeat (first
   | (refine zV Gd0 Dc ?_)
   | (refine zV (zB Gs0 Gs0 (by first | exact zA | exact zL | exact in_gtr)) Dc ?_; (try rw [zI Om Om]))
   | (refine zV (ex_len el26 Gs0) Dc ?_))
 refine zN ?_; (repeat refine zS ?_);refine W_scoped ?_
 repeat refine zS ?_
 (repeat refine zS ?_); refine zR ?_
 repeat (first
   | (refine zV Gd0 Dc ?_)
   | (refine zV (zB Gs0 Gs0 (by first | exact zA | exact zL | exact in_gtr)) Dc ?_; (try rw [zI Om Om]))
   | (refine zV (ex_len el26 Gs0) Dc ?_))
 refine zN ?_; (repeat refine zS ?_);refine W_label ?_;refine W_here (fun j T h1 => ∃ k, j = l.length - k ∧ k ≤ l.length ∧ T.get 0 = some (.one v) ∧ T.get 1 = some (.one (.i .i64 gap)) ∧ T.get 5 = some (.one (.i .i64 ((l.take k).foldl (lineF gap) (false, 0)).2)) ∧ T.get 6 = some (.one (.i .i64 (k : Int))) ∧ Up (· < h.next) h h1 ∧ Ok h1) ?_ l.length _ _ ⟨0, rfl, Nat.zero_le _, gs, gs, by (simp only [go_sem, ↓reduceIte, Nat.reduceEqDiff, List.take_zero, List.foldl_nil] <;> first | rfl | simp), gs, .refl _ _, ok⟩;rintro j T h1 ih ⟨k, rfl, hk, t0, t1, t5, t6, u1, o1⟩
 have hlen : ∀ T : Sl, ∀ x : Operand, ev T x = some (.one v) → ∀ {d ty ps af g}, execO Try.prog T h1 ⟨d, .call ⟨.builtin .len, #[x], #[26]⟩, ty, ps, af, g⟩ = some (.val (.one (.i .i64 (l.length : Int))) h1) := by
  intro T x hx d ty ps af g;rcases hi with ⟨rfl, rfl⟩ | ⟨b, c, ex, rfl, _⟩
  ·exact ex_len0 el26 hx
  ·exact ex_len el26 hx
 have hp := lineF_in (gap := gap) (l := l.take k) (p := (false, 0)) (by simp);have hn1 := u1.next
 (repeat refine zS ?_); refine zR ?_
 repeat (first
   | (refine zV (Gd4 @t0 @t1 @t5 @t6) Dc ?_)
   | (refine zV (zB (Gs4 @t0 @t1 @t5 @t6) (Gs4 @t0 @t1 @t5 @t6) (by first | exact zA | exact zL | exact in_gtr)) Dc ?_; (try rw [zI Om Om]))
   | (refine zV (ex_len el26 (Gs4 @t0 @t1 @t5 @t6)) Dc ?_))
 refine zV (hlen _ _ (ee)) Dc ?_
 repeat (first
   | (refine zV (Gd4 @t0 @t1 @t5 @t6) Dc ?_)
   | (refine zV (zB (Gs4 @t0 @t1 @t5 @t6) (Gs4 @t0 @t1 @t5 @t6) (by first | exact zA | exact zL | exact in_gtr)) Dc ?_; (try rw [zI Om Om]))
   | (refine zV (ex_len el26 (Gs4 @t0 @t1 @t5 @t6)) Dc ?_))
 refine zN ?_; (repeat refine zS ?_);refine zC (ee) (fun hlt => ?_) (fun hge => ?_)
 ·have hlt : (k : Int) < (l.length : Int) := by simpa using hlt
  have hlt : k < l.length := by omega
  obtain ⟨b, c, ex, rfl, hbn, hrows⟩ : ∃ b c ex, v = .sl b 0 l.length c 1 ex ∧ b < h.next ∧ ∀ k x, l[k]? = some x → h.row b k 1 = some [.i .i64 x] := by
   rcases hi with ⟨rfl, _⟩ | q
   ·simp at hlt
   ·exact q
  obtain ⟨x, hx⟩ : ∃ x, l[k]? = some x := ⟨_, List.getElem?_eq_getElem hlt⟩;have hxb := hl x (List.mem_of_getElem? hx);have hstep := lineF_take (gap := gap) hx;refine W_join (fun T2 h2 => T2.get 0 = some (.one (.sl b 0 l.length c 1 ex)) ∧ T2.get 1 = some (.one (.i .i64 gap)) ∧ T2.get 6 = some (.one (.i .i64 (k : Int))) ∧ T2.get 5 = some (.one (.i .i64 (if 0 < k then satI (((l.take k).foldl (lineF gap) (false, 0)).2 + gap) else ((l.take k).foldl (lineF gap) (false, 0)).2))) ∧ Up (· < h.next) h h2 ∧ Ok h2) ?_ ?_
  ·(repeat refine zS ?_); refine zR ?_
   repeat (first
   | (refine zV (Gd1 @t6) Dc ?_)
   | (refine zV (zB (Gs1 @t6) (Gs1 @t6) (by first | exact zA | exact zL | exact in_gtr)) Dc ?_; (try rw [zI Om Om]))
   | (refine zV (ex_len el26 (Gs1 @t6)) Dc ?_))
   refine zN ?_; (repeat refine zS ?_);refine zC (ee) (fun hg => ?_) (fun hg => ?_)
   ·have hg : 0 < k := by have : (0 : Int) < (k : Int) := by simpa using hg
                          omega
    refine zR ?_
    repeat (first
   | (refine zV (Gd2 @t1 @t5) Dc ?_)
   | (refine zV (zB (Gs2 @t1 @t5) (Gs2 @t1 @t5) (by first | exact zA | exact zL | exact in_gtr)) Dc ?_; (try rw [zI Om Om]))
   | (refine zV (ex_len el26 (Gs2 @t1 @t5)) Dc ?_))
    refine WO_bs1 el26 ⟨_, ze26⟩ (ee) o1 Dc fun h2 n2 => ?_;have e2 := n2.next;refine WO_fn (ee) (by simp) Dc ((plus_fn hs1 hs2 (l := [gap]) hp (by simpa using hgap) (by simp) (fun i y hy => ?_)).mono ?_)
    ·match i, hy with
     | 0, hy => simp at hy; subst hy; rw [n2.cells.row (by simp)]; rfl
    rintro w3 h3 ⟨rfl, rfl⟩
    repeat (first
   | (refine zV Gd0 Dc ?_)
   | (refine zV (zB Gs0 Gs0 (by first | exact zA | exact zL | exact in_gtr)) Dc ?_; (try rw [zI Om Om]))
   | (refine zV (ex_len el26 Gs0) Dc ?_))
    refine zN ⟨rfl, gt t0, gt t1, gt t6, ?_, u1.trans (n2.up.mono fun b hb => by omega), n2.ok⟩;simp only [go_sem, ↓reduceIte, Nat.reduceEqDiff, if_pos hg, plusI]
   ·have hg : ¬ 0 < k := by have : ¬ (0 : Int) < (k : Int) := by simpa using hg
                            omega
    refine W_skip ?_;refine ⟨rfl, gt t0, gt t1, gt t6, ?_, u1, o1⟩;simp only [go_sem, ↓reduceIte, Nat.reduceEqDiff, if_neg hg, t5]
  rintro T2 h2 ⟨s0, s1, s6, s5, u2, o2⟩;have r1 : h2.row b k 1 = some [.i .i64 x] := by rw [u2.row hbn]; exact hrows k x hx
  have hn2 := u2.next
  have hq : -1099511627776 ≤ (if 0 < k then satI (((l.take k).foldl (lineF gap) (false, 0)).2 + gap) else ((l.take k).foldl (lineF gap) (false, 0)).2) ∧ (if 0 < k then satI (((l.take k).foldl (lineF gap) (false, 0)).2 + gap) else ((l.take k).foldl (lineF gap) (false, 0)).2) ≤ 1099511627776 := by
   split
   ·exact satI_in _
   ·exact hp
  have hbk : ((l.take k).foldl (lineF gap) (false, 0)).1 = decide (0 < k) := by
   rcases Nat.eq_zero_or_pos k with rfl | q
   ·simp
   ·rw [lineF_fst]
    ·simp [q]
    ·intro e; have := congrArg List.length e; rw [List.length_take, Nat.min_eq_left hk] at this; simp only [List.length_nil] at this; omega
  (repeat refine zS ?_); refine zR ?_
  repeat (first
   | (refine zV (Gd4 @r1 @s0 @s5 @s6) Dc ?_)
   | (refine zV (zB (Gs3 @s0 @s5 @s6) (Gs3 @s0 @s5 @s6) (by first | exact zA | exact zL | exact in_gtr)) Dc ?_; (try rw [zI Om Om]))
   | (refine zV (ex_len el26 (Gs3 @s0 @s5 @s6)) Dc ?_))
  refine WO_bs1 el26 ⟨_, ze26⟩ (ee) o2 Dc fun h3 n3 => ?_;have e3 := n3.next;refine WO_fn (ee) (by simp) Dc ((plus_fn hs1 hs2 (l := [x]) hq (by simpa using hxb) (by simp) (fun i y hy => ?_)).mono ?_)
  ·match i, hy with
   | 0, hy => simp at hy; subst hy; rw [n3.cells.row (by simp)]; rfl
  rintro w4 h4 ⟨rfl, rfl⟩
  repeat (first
   | (refine zV Gd0 Dc ?_)
   | (refine zV (zB Gs0 Gs0 (by first | exact zA | exact zL | exact in_gtr)) Dc ?_; (try rw [zI Om Om]))
   | (refine zV (ex_len el26 Gs0) Dc ?_))
  refine zN ?_; (repeat refine zS ?_);refine zR ?_
  repeat (first
   | (refine zV (Gd1 @s6) Dc ?_)
   | (refine zV (zB (Gs1 @s6) (Gs1 @s6) (by first | exact zA | exact zL | exact in_gtr)) Dc ?_; (try rw [zI Om Om]))
   | (refine zV (ex_len el26 (Gs1 @s6)) Dc ?_))
  refine zN ?_; (repeat refine zS ?_);refine W_goto ?_; (repeat first | refine thenQ_goto ?_ | refine blockQ_goto ?_); refine scope_jump (by rfl) ?_; (repeat refine zS ?_);refine W_skip ?_;refine ih (l.length - (k + 1)) Om _ _ ⟨k + 1, rfl, hlt, (Gu1 @s0), (Gu1 @s1), ?_, gs, u2.trans (n3.up.mono fun b hb => by omega), n3.ok⟩;simp only [go_sem, ↓reduceIte, Nat.reduceEqDiff, hstep, lineF, hbk, plusI, decide_eq_true_eq]
 ·have hge : ¬ (k : Int) < (l.length : Int) := by simpa using hge
  have hk : k = l.length := by omega
  subst hk;rw [List.take_length] at t5;refine W_skip ?_
  repeat refine zS ?_
  refine zR ?_
  repeat (first
   | (refine zV (Gd1 @t5) Dc ?_)
   | (refine zV (zB (Gs1 @t5) (Gs1 @t5) (by first | exact zA | exact zL | exact in_gtr)) Dc ?_; (try rw [zI Om Om]))
   | (refine zV (ex_len el26 (Gs1 @t5)) Dc ?_))
  exact zN (W_ret ⟨.inr rfl, _, RbA, rfl, u1, o1⟩)
end Go.Ai
