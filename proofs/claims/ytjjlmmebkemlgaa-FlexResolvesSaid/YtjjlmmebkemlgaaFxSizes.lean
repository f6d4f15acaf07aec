/-
flex: plain sizes; line: their sum: what the machine comes to.
-/
import Derived.Test.YtjjlmmebkemlgaaFxSmall
set_option linter.unusedVariables false
set_option linter.unusedSimpArgs false
namespace Go.Ai
open Go.Proofs

def Itm.plain (x : Itm) : Int := clampI x.base x.mn x.mx
def plains (L : List Itm) : List Int := L.map Itm.plain
theorem Itm.ok.plain {x : Itm} (k : x.ok) : 0 ≤ x.plain ∧ x.plain ≤ 1099511627776 := by
  have := k.base; have := k.mn; have := k.mx
  unfold Itm.plain clampI; split <;> omega
theorem ex_lenL {P : Program} {T : Sl} {h : H} {t e n : Nat} {x : Operand} (ht : elemAt P t = some (e, n)) (hx : ev T x = some (.one (.lsl (Lin.num 0)))) {d : Option Tmp} {ty : TypeId} {ps : String} {af : Array Edge} {g : Option (Nat × Bool)} : execO P T h ⟨d, .call ⟨.builtin .len, #[x], #[t]⟩, ty, ps, af, g⟩ = some (.val (.one (.i .i64 ((0 : Nat) : Int))) h) := by
  have hu : ∃ e', P.underlying t = some (.slice e') := by
    unfold elemAt at ht
    split at ht
    · rename_i e' hu; exact ⟨e', hu⟩
    · cases ht
  obtain ⟨e', hu⟩ := hu
  show orPure P T h _ (doLen P h t (ev T x)) = _
  rw [hx]
  have hp : pureOp P T h ⟨d, .call ⟨.builtin .len, #[x], #[t]⟩, ty, ps, af, g⟩ = none := by
    have ha : allConc T [x] = false := by simp only [allConc, evc, hx]; rfl
    show cond (allConc T [x]) _ none = none
    rw [ha]; rfl
  have hs : symV h.kn P T ⟨d, .call ⟨.builtin .len, #[x], #[t]⟩, ty, ps, af, g⟩ = some (.one (.i .i64 ((0 : Nat) : Int))) := by
    show symC h.kn P T ⟨.builtin .len, #[x], #[t]⟩ = _
    have he : evs T [x] = some [.one (.lsl (Lin.num 0))] := by simp only [evs, hx]
    have hc : symC h.kn P T ⟨.builtin .len, #[x], #[t]⟩ = symB h.kn P .len [.one (.lsl (Lin.num 0))] [t] := by
      unfold symC
      simp only [he]
    rw [hc]
    show (match P.underlying t with
      | some (.slice _) => cond (inR .i64 (Lin.num 0)) (some (mkY .i64 (Lin.num 0))) none
      | _ => none) = _
    rw [hu]
    rfl
  unfold orPure
  simp only [doLen, hp, hs]
/-- Items that lie in a slice, or none (of what address ever). -/
def ItemsAt (h : H) (v : S) (L : List Itm) : Prop := (L = [] ∧ (v = .sl0 ∨ v = .lsl (Lin.num 0))) ∨ ∃ b o c ex, v = .sl b o L.length c 5 ex ∧ b < h.next ∧ ∀ k x, L[k]? = some x → h.row b (o + k * 5) 5 = some x.cells
theorem ItemsAt.up {h h1 : H} {v : S} {L : List Itm} (k : ItemsAt h v L) {p : Nat → Prop} (u : Up p h h1) (hp : ∀ b, S.blk v = some b → p b) : ItemsAt h1 v L := by
  rcases k with k | ⟨b, o, c, ex, rfl, h1, h2⟩
  · exact .inl k
  · exact .inr ⟨b, o, c, ex, rfl, Nat.lt_of_lt_of_le h1 u.next, fun i x hx => by rw [u.row (hp b rfl)]; exact h2 i x hx⟩
theorem ItemsAt.upLt {h h1 : H} {v : S} {L : List Itm} (k : ItemsAt h v L) (u : Up (· < h.next) h h1) : ItemsAt h1 v L := by
  refine k.up u fun b hb => ?_
  rcases k with ⟨_, rfl | rfl⟩ | ⟨b', o, c, ex, rfl, h1, h2⟩
  · cases hb
  · cases hb
  · cases hb; exact h1
theorem ItemsAt.len {h h1 : H} {v : S} {L : List Itm} (hi : ItemsAt h v L) {T : Sl} {x : Operand} (hx : ev T x = some (.one v)) {d : Option Tmp} {ty : TypeId} {ps : String} {af : Array Edge} {g : Option (Nat × Bool)} : execO Try.prog T h1 ⟨d, .call ⟨.builtin .len, #[x], #[39]⟩, ty, ps, af, g⟩ = some (.val (.one (.i .i64 (L.length : Int))) h1) := by
  rcases hi with ⟨rfl, rfl | rfl⟩ | ⟨b, o, c, ex, rfl, _⟩
  · exact ex_len0 el39 hx
  · exact ex_lenL el39 hx
  · exact ex_len el39 hx
set_option maxHeartbeats 0 in
theorem size_fn {spec : CallF} (hs : ∀ args h, spec 46 args h = none) (hs2 : ∀ args h, spec 55 args h = none) {h : H} {x : Itm} (ok : Ok h) :
    WF Try.prog spec 46 [.agg x.cells] h fun v h1 => v = .one (.i .i64 x.plain) ∧ Up (· < h.next) h h1 ∧ h1.next = h.next + 1 ∧ Ok h1 := by
  refine WF_of Try.func46 rfl (hs _ _) (by rw [Try.ntmps46]; simp) (by rw [Try.ntmps46]; decide) ?_
  rw [Try.ntmps46, Try.results46]
  simp only [Sl.setMany_cons, Sl.setMany_nil, Nat.zero_add, Nat.reduceAdd]
  (repeat refine W_seq ?_); refine W_region ?_
  refine WO_boxA (ee) ok (by decide) fun h1 n1 => ?_
  have c1 := n1.cells
  unfold Itm.cells at c1
  repeat (first
      | (refine WO_val (by simp (disch := first | omega | simp) only [go_sem, ↓reduceIte, Nat.reduceEqDiff, Nat.reduceAdd]; rfl) (by decide) ?_))
  refine WO_nil ?_; (repeat refine W_seq ?_)
  refine W_region ?_
  repeat (first
      | (refine WO_val (by simp (disch := first | omega | simp) only [go_sem, ↓reduceIte, Nat.reduceEqDiff, Nat.reduceAdd, c1.row]; rfl) (by decide) ?_))
  refine WO_fn (ee) (by simp) (by decide) ((within_fn hs2).mono ?_)
  rintro v h2 ⟨rfl, rfl⟩
  repeat (first
      | (refine WO_val (by simp (disch := first | omega | simp) only [go_sem, ↓reduceIte, Nat.reduceEqDiff, Nat.reduceAdd]; rfl) (by decide) ?_))
  exact WO_nil (W_ret ⟨.inr rfl, _, by (simp only [resultB, resB, parts, V.part, Sl.get_set', ↓reduceIte, Nat.reduceEqDiff] <;> rfl), rfl, n1.up, n1.next, n1.ok⟩)
theorem plains_take {L : List Itm} {k : Nat} {y : Itm} (hy : L[k]? = some y) : plains (L.take (k + 1)) = plains (L.take k) ++ [y.plain] := by
  obtain ⟨hk, rfl⟩ := List.getElem?_eq_some_iff.1 hy
  rw [List.take_succ_eq_append_getElem hk]
  unfold plains
  rw [List.map_append]; rfl
theorem nums_append (l m : List Int) : nums (l ++ m) = nums l ++ nums m := by simp [nums]
theorem nums_length (l : List Int) : (nums l).length = l.length := by simp [nums]
set_option maxHeartbeats 0 in
theorem sizes_fn {spec : CallF} (hs : ∀ args h, spec 58 args h = none) (hs1 : ∀ args h, spec 46 args h = none) (hs2 : ∀ args h, spec 55 args h = none) {h : H} {v : S} {L : List Itm} (ok : Ok h) (hi : ItemsAt h v L) (hn : L.length ≤ 1000) :
    WF Try.prog spec 58 [.one v] h fun r h1 => ∃ x, r = .one x ∧ Grown h1 x h.next 3 1 (nums (plains L)) ∧ Up (· < h.next) h h1 ∧ Ok h1 := by
  refine WF_of Try.func58 rfl (hs _ _) (by rw [Try.ntmps58]; simp) (by rw [Try.ntmps58]; decide) ?_
  rw [Try.ntmps58, Try.results58]
  simp only [Sl.setMany_cons, Sl.setMany_nil, Nat.zero_add, Nat.reduceAdd]
  (repeat refine W_seq ?_); refine W_region ?_
  repeat (first
      | (refine WO_val (by simp (disch := first | omega | simp) only [go_sem, ↓reduceIte, Nat.reduceEqDiff, Nat.reduceAdd]; rfl) (by decide) ?_)
      | (refine WO_val (ex_bin (by simp only [go_sem, ↓reduceIte, Nat.reduceEqDiff]; rfl) (by simp only [go_sem, ↓reduceIte, Nat.reduceEqDiff]; rfl) (by first | exact in_add | exact in_lss)) (by decide) ?_; (try rw [wrap_id (by omega) (by omega)]))
      | (refine WO_val (ex_len el39 (by simp only [go_sem, ↓reduceIte, Nat.reduceEqDiff]; rfl)) (by decide) ?_))
  refine WO_nil ?_; (repeat refine W_seq ?_)
  refine W_region ?_
  repeat (first
      | (refine WO_val (by simp (disch := first | omega | simp) only [go_sem, ↓reduceIte, Nat.reduceEqDiff, Nat.reduceAdd]; rfl) (by decide) ?_)
      | (refine WO_val (ex_bin (by simp only [go_sem, ↓reduceIte, Nat.reduceEqDiff]; rfl) (by simp only [go_sem, ↓reduceIte, Nat.reduceEqDiff]; rfl) (by first | exact in_add | exact in_lss)) (by decide) ?_; (try rw [wrap_id (by omega) (by omega)]))
      | (refine WO_val (ex_len el39 (by simp only [go_sem, ↓reduceIte, Nat.reduceEqDiff]; rfl)) (by decide) ?_))
  refine WO_val (hi.len (ee)) (by decide) ?_
  repeat (first
      | (refine WO_val (by simp (disch := first | omega | simp) only [go_sem, ↓reduceIte, Nat.reduceEqDiff, Nat.reduceAdd]; rfl) (by decide) ?_)
      | (refine WO_val (ex_bin (by simp only [go_sem, ↓reduceIte, Nat.reduceEqDiff]; rfl) (by simp only [go_sem, ↓reduceIte, Nat.reduceEqDiff]; rfl) (by first | exact in_add | exact in_lss)) (by decide) ?_; (try rw [wrap_id (by omega) (by omega)]))
      | (refine WO_val (ex_len el39 (by simp only [go_sem, ↓reduceIte, Nat.reduceEqDiff]; rfl)) (by decide) ?_))
  refine WO_nil ?_; (repeat refine W_seq ?_)
  refine W_block (W_rounds (fun j T h1 => ∃ k x, j = L.length - k ∧ k ≤ L.length ∧ T.get 2 = some (.one x) ∧ T.get 5 = some (.one v) ∧ T.get 6 = some (.one (.i .i64 (L.length : Int))) ∧ T.get 7 = some (.one (.i .i64 (k : Int))) ∧ Grown h1 x h.next 3 1 (nums (plains (L.take k))) ∧ Up (· < h.next) h h1 ∧ Ok h1) ?_ L.length _ _ ?_)
  rotate_left
  · exact ⟨0, .sl0, rfl, Nat.zero_le _, gs, gs, gs, gs, .nil, .refl _ _, ok⟩
  rintro j T h1 ⟨k, x, rfl, hk, t2, t5, t6, t7, gx, u1, o1⟩
  (repeat refine W_seq ?_); refine W_region ?_
  repeat (first
      | (refine WO_val (by simp (disch := first | omega | simp) only [go_sem, ↓reduceIte, Nat.reduceEqDiff, Nat.reduceAdd, t6, t7]; rfl) (by decide) ?_)
      | (refine WO_val (ex_bin (by simp only [go_sem, ↓reduceIte, Nat.reduceEqDiff, t6, t7]; rfl) (by simp only [go_sem, ↓reduceIte, Nat.reduceEqDiff, t6, t7]; rfl) (by first | exact in_add | exact in_lss)) (by decide) ?_; (try rw [wrap_id (by omega) (by omega)]))
      | (refine WO_val (ex_len el39 (by simp only [go_sem, ↓reduceIte, Nat.reduceEqDiff, t6, t7]; rfl)) (by decide) ?_))
  refine WO_nil ?_; (repeat refine W_seq ?_)
  refine W_cond (ee) (fun hlt => W_skip ?_) (fun hge => W_exit ?_)
  · have hlt : (k : Int) < (L.length : Int) := by simpa using hlt
    have hlt : k < L.length := by omega
    obtain ⟨b, o, c, ex, rfl, hbn, hrows⟩ : ∃ b o c ex, v = .sl b o L.length c 5 ex ∧ b < h.next ∧ ∀ k x, L[k]? = some x → h.row b (o + k * 5) 5 = some x.cells := by
      rcases hi with ⟨rfl, _⟩ | q
      · simp at hlt
      · exact q
    obtain ⟨y, hy⟩ : ∃ y, L[k]? = some y := ⟨_, List.getElem?_eq_getElem hlt⟩
    have r1 : h1.row b (o + k * 5) 5 = some y.cells := by rw [u1.row hbn]; exact hrows k y hy
    have hn1 := u1.next
    repeat refine W_seq ?_
    refine W_block ?_
    (repeat refine W_seq ?_); refine W_region ?_
    repeat (first
      | (refine WO_val (by simp (disch := first | omega | simp) only [go_sem, ↓reduceIte, Nat.reduceEqDiff, Nat.reduceAdd, r1, t5, t6, t7]; rfl) (by decide) ?_)
      | (refine WO_val (ex_bin (by simp only [go_sem, ↓reduceIte, Nat.reduceEqDiff, t5, t6, t7]; rfl) (by simp only [go_sem, ↓reduceIte, Nat.reduceEqDiff, t5, t6, t7]; rfl) (by first | exact in_add | exact in_lss)) (by decide) ?_; (try rw [wrap_id (by omega) (by omega)]))
      | (refine WO_val (ex_len el39 (by simp only [go_sem, ↓reduceIte, Nat.reduceEqDiff, t5, t6, t7]; rfl)) (by decide) ?_))
    refine WO_alloc zb46 rfl o1 (by decide) fun h2 n2 => ?_
    refine WO_storeA (ee) (ee) sz46 rfl (by simp [Itm.cells]) n2.cells n2.may (by simp [Itm.cells, V.cells]) fun h3 p3 => ?_
    have c3 := p3.cells
    simp only [Itm.cells, V.cells, List.take_zero, List.nil_append, List.length_cons, List.length_nil, Nat.reduceAdd, Nat.zero_add, List.drop_succ_cons, List.drop_zero, List.append_nil] at c3
    have u3 : Up (· < h1.next) h1 h3 := n2.up.trans (p3.up.mono fun b hb => by omega)
    have o3 := p3.ok n2.ok
    have e3 : h3.next = h1.next + 1 := by rw [p3.next, n2.next]
    have r4 : h3.row h1.next 0 5 = some y.cells := by rw [c3.row (by simp)]; rfl
    refine WO_nil ?_; (repeat refine W_seq ?_)
    refine W_region ?_
    repeat (first
      | (refine WO_val (by simp (disch := first | omega | simp) only [go_sem, ↓reduceIte, Nat.reduceEqDiff, Nat.reduceAdd, r4, t2]; rfl) (by decide) ?_)
      | (refine WO_val (ex_bin (by simp only [go_sem, ↓reduceIte, Nat.reduceEqDiff, t2]; rfl) (by simp only [go_sem, ↓reduceIte, Nat.reduceEqDiff, t2]; rfl) (by first | exact in_add | exact in_lss)) (by decide) ?_; (try rw [wrap_id (by omega) (by omega)]))
      | (refine WO_val (ex_len el39 (by simp only [go_sem, ↓reduceIte, Nat.reduceEqDiff, t2]; rfl)) (by decide) ?_))
    refine WO_fn (ee) (by simp) (by decide) ((size_fn hs1 hs2 o3).mono ?_)
    rintro w4 h4 ⟨rfl, u4, e4, o4⟩
    refine WO_bs1 el23 ⟨_, ze23⟩ (ee) o4 (by decide) fun h5 n5 => ?_
    have u5 : Up (· < h1.next) h1 h5 := (u3.trans (u4.mono fun b hb => by omega)).trans (n5.up.mono fun b hb => by omega)
    have g5 := gx.up u5 fun q hq => (gx.lt hq).2
    have e5 := n5.next
    refine WO_app (n0 := h.next) ap23_23 (by (simp only [go_sem, ↓reduceIte, Nat.reduceEqDiff, t2] <;> rfl)) (ee) n5.cells rfl g5 n5.ok (by omega) (m := (L.take k).length) (by simp [nums, plains]) (by simp; omega) (by simp; omega) (by decide) fun x6 h6 g6 => ?_
    repeat (first
      | (refine WO_val (by simp (disch := first | omega | simp) only [go_sem, ↓reduceIte, Nat.reduceEqDiff, Nat.reduceAdd]; rfl) (by decide) ?_)
      | (refine WO_val (ex_bin (by simp only [go_sem, ↓reduceIte, Nat.reduceEqDiff]; rfl) (by simp only [go_sem, ↓reduceIte, Nat.reduceEqDiff]; rfl) (by first | exact in_add | exact in_lss)) (by decide) ?_; (try rw [wrap_id (by omega) (by omega)]))
      | (refine WO_val (ex_len el39 (by simp only [go_sem, ↓reduceIte, Nat.reduceEqDiff]; rfl)) (by decide) ?_))
    refine WO_nil ?_; (repeat refine W_seq ?_)
    refine W_region ?_
    repeat (first
      | (refine WO_val (by simp (disch := first | omega | simp) only [go_sem, ↓reduceIte, Nat.reduceEqDiff, Nat.reduceAdd, t7]; rfl) (by decide) ?_)
      | (refine WO_val (ex_bin (by simp only [go_sem, ↓reduceIte, Nat.reduceEqDiff, t7]; rfl) (by simp only [go_sem, ↓reduceIte, Nat.reduceEqDiff, t7]; rfl) (by first | exact in_add | exact in_lss)) (by decide) ?_; (try rw [wrap_id (by omega) (by omega)]))
      | (refine WO_val (ex_len el39 (by simp only [go_sem, ↓reduceIte, Nat.reduceEqDiff, t7]; rfl)) (by decide) ?_))
    refine WO_nil ?_
    have e := plains_take hy
    exact ⟨L.length - (k + 1), by omega, k + 1, x6, rfl, hlt, gs, gt t5, gt t6, gs, g6.grown.same (by rw [e, nums_append]; rfl), (u1.trans (u5.mono fun b hb => by omega)).trans (g6.below g5 (by omega)), g6.ok⟩
  · have hge : ¬ (k : Int) < (L.length : Int) := by simpa using hge
    have hk : k = L.length := by omega
    subst hk
    refine ⟨fun _ => ?_, fun hne => absurd rfl hne⟩
    (repeat refine W_seq ?_); refine W_region ?_
    repeat (first
      | (refine WO_val (by simp (disch := first | omega | simp) only [go_sem, ↓reduceIte, Nat.reduceEqDiff, Nat.reduceAdd, t2]; rfl) (by decide) ?_)
      | (refine WO_val (ex_bin (by simp only [go_sem, ↓reduceIte, Nat.reduceEqDiff, t2]; rfl) (by simp only [go_sem, ↓reduceIte, Nat.reduceEqDiff, t2]; rfl) (by first | exact in_add | exact in_lss)) (by decide) ?_; (try rw [wrap_id (by omega) (by omega)]))
      | (refine WO_val (ex_len el39 (by simp only [go_sem, ↓reduceIte, Nat.reduceEqDiff, t2]; rfl)) (by decide) ?_))
    exact WO_nil (W_ret ⟨.inr rfl, _, by (simp only [resultB, resB, parts, V.part, Sl.get_set', ↓reduceIte, Nat.reduceEqDiff] <;> rfl), x, rfl, gx.same (by rw [List.take_length]), u1, o1⟩)
end Go.Ai
