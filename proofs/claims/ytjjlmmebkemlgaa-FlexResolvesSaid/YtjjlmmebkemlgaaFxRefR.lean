/-
The reference's Resolve: the same sizes.
-/
import Derived.Test.YtjjlmmebkemlgaaFxRefS
set_option linter.unusedVariables false
set_option linter.unusedSimpArgs false
namespace Go.Ai
open Go.Proofs

theorem refprt {t : Int} {ws : List Int} (h : Lf.May t ws) : ∃ K, Lf.arrasref1_Split.f K t ws = some (prtI t ws) := by
  obtain ⟨Q, hQ, e, _⟩ := prtI_of h
  obtain ⟨K, hK⟩ := Lf.refSplit_eq h hQ
  exact ⟨K, by rw [hK K (Nat.le_refl _), e]; rfl⟩
theorem WO_mk {P : Program} {spec : CallF} {nt : Nat} {T : Sl} {h : H} {K : Sl → H → Prop} {all l : List Oper} {ty : TypeId} {ps : String} {af : Array Edge} {d : Tmp} {t : TypeId} {x : Operand} {n : Nat} (hx : ev T x = some (.one (.i .i64 (n : Int)))) {e size bytes : Nat} {zs : List S} (hm : makeAt P t = some (e, size, bytes, zs)) (hb : n * bytes ≤ 1099511627776) (hb2 : n ≤ 1099511627776) (o : Ok h) (hd : d < nt)
    (hk : ∀ h1, New h h1 e (repeatS zs n) → WO P spec nt all l (T.set d (.one (.sl h.next 0 n n size true))) h1 K) : WO P spec nt all (⟨some d, .makeSlice t x x, ty, ps, af, none⟩ :: l) T h K :=
  WO_val (by rw [ex_makeSlice, hx]; exact (mk_sl (P := P) (h := h) hm rfl hb hb2).2.2) hd (hk _ (.of o))
/-- What lies there as the rounds go. -/
structure RW (h : H) (v x : S) (qf n0 : Nat) (L : List Itm) (ss : List Int) (fx : List Bool) : Prop where
  items : ItemsAt h v L
  sizes : Grown h x n0 3 1 (nums ss)
  fixed : Cells h qf 4 (bools fx)
  ls : ss.length = L.length
  lf : fx.length = L.length
  lt : n0 ≤ qf ∧ qf < h.next
  ne : S.blk x ≠ some qf
  own : ∀ q, S.blk v = some q → q < n0
  may : h.may qf = true
section
variable {h h1 : H} {v x : S} {qf n0 : Nat} {L : List Itm} {ss ss' : List Int} {fx fx' : List Bool}
theorem RW.up {p : Nat → Prop} (k : RW h v x qf n0 L ss fx) (u : Up p h h1) (hv : ∀ q, q < n0 → p q) (hx : ∀ q, S.blk x = some q → p q) (hf : p qf) : RW h1 v x qf n0 L ss fx :=
  ⟨k.items.up u fun b hb => hv b (k.own b hb), k.sizes.up u hx, u.cells hf k.fixed, k.ls, k.lf, ⟨k.lt.1, Nat.lt_of_lt_of_le k.lt.2 u.next⟩, k.ne, k.own, by rw [u.may]; exact k.may⟩
theorem RW.upLt (k : RW h v x qf n0 L ss fx) (u : Up (· < h.next) h h1) : RW h1 v x qf n0 L ss fx :=
  k.up u (fun q hq => by have := k.lt; omega) (fun q hq => (k.sizes.lt hq).2) k.lt.2
theorem RW.putSize (k : RW h v x qf n0 L ss fx) {qs n : Nat} (hx : x = .sl qs 0 n n 1 false) (hq : n0 ≤ qs ∧ qs < h.next) (hp : 0 < n) (hn : n = ss.length) (p : Put h h1 qs 3 (nums ss')) (hl : ss'.length = ss.length) : RW h1 v x qf n0 L ss' fx := by
  subst hx
  have hne : qf ≠ qs := fun e => k.ne (by rw [e]; rfl)
  exact ⟨k.items.up p.up fun b hb => by have := k.own b hb; omega, .inr ⟨qs, n, rfl, hp, by rw [nums_length]; omega, p.cells, p.may, hq.1, by rw [p.next]; exact hq.2⟩, p.up.cells hne k.fixed, by rw [hl]; exact k.ls, k.lf, ⟨k.lt.1, by rw [p.next]; exact k.lt.2⟩, k.ne, k.own, by rw [p.up.may]; exact k.may⟩
theorem RW.putFix (k : RW h v x qf n0 L ss fx) (p : Put h h1 qf 4 (bools fx')) (hl : fx'.length = fx.length) : RW h1 v x qf n0 L ss fx' :=
  ⟨k.items.up p.up fun b hb => by have := k.own b hb; have := k.lt; omega, k.sizes.up p.up fun q hq e => k.ne (by rw [← e]; exact hq), p.cells, k.ls, by rw [hl]; exact k.lf, ⟨k.lt.1, by rw [p.next]; exact k.lt.2⟩, k.ne, k.own, p.may⟩
theorem RW.at (k : RW h v x qf n0 L ss fx) {i : Nat} (hi : i < L.length) : ∃ b o c ex, v = .sl b o L.length c 5 ex ∧ b < n0 ∧ ∀ k x, L[k]? = some x → h.row b (o + k * 5) 5 = some x.cells := by
  have h1 := k.items
  have h2 := k.own
  rcases h1 with ⟨rfl, _⟩ | ⟨b, o, c, ex, rfl, _, q⟩
  · simp at hi
  · exact ⟨b, o, c, ex, rfl, h2 b rfl, q⟩
end
theorem fixed_step {L : List Itm} {k : Nat} {y : Itm} {G : Bool} (hy : L[k]? = some y) (r : Bool) (hr : r = y.fixed0 G) : (bools ((L.take k).map (Itm.fixed0 G) ++ List.replicate (L.length - k) false)).take k ++ [S.b r] ++ (bools ((L.take k).map (Itm.fixed0 G) ++ List.replicate (L.length - k) false)).drop (k + 1) = bools ((L.take (k + 1)).map (Itm.fixed0 G) ++ List.replicate (L.length - (k + 1)) false) := by
  subst hr
  obtain ⟨hk, hyy⟩ := List.getElem?_eq_some_iff.1 hy
  have hl1 : ((L.take k).map (Itm.fixed0 G)).length = k := by simp; omega
  obtain ⟨m, hm⟩ : ∃ m, L.length - k = m + 1 := ⟨L.length - k - 1, by omega⟩
  rw [hm, show L.length - (k + 1) = m by omega]
  have e1 : (L.take (k + 1)).map (Itm.fixed0 G) = (L.take k).map (Itm.fixed0 G) ++ [y.fixed0 G] := by
    rw [List.take_succ_eq_append_getElem hk, List.map_append, hyy]; rfl
  rw [e1]
  unfold bools
  rw [List.map_append, List.take_append_of_le_length (by rw [List.length_map, hl1]; exact Nat.le_refl _), List.take_of_length_le (by rw [List.length_map, hl1]; exact Nat.le_refl _), List.drop_append, List.drop_of_length_le (by rw [List.length_map, hl1]; omega)]
  rw [List.length_map, hl1, show k + 1 - k = 1 by omega]
  simp [List.replicate_succ]
theorem set_same {l : List Bool} {i : Nat} (h : l[i]? = some false) : l.set i false = l := by
  obtain ⟨hi, e⟩ := List.getElem?_eq_some_iff.1 h
  refine List.ext_getElem? fun j => ?_
  by_cases q : i = j
  · subst q; rw [List.getElem?_set_self hi, h]
  · rw [List.getElem?_set_ne q]
set_option maxHeartbeats 0 in
set_option maxRecDepth 100000 in
theorem refres_fn {spec : CallF} (hs : SpecRef spec) (hs3 : SpecEq spec) {h : H} {v : S} {L : List Itm} {gap room : Int} (ok : Ok h) (lok : LineOk L gap room) (hi : ItemsAt h v L) :
    WF Try.prog spec 25 [.one v, .one (.i .i64 gap), .one (.i .i64 room)] h fun r h1 => ∃ x, r = .one x ∧ Grown h1 x h.next 3 1 (nums (solveI prtI L gap room)) ∧ Up (· < h.next) h h1 ∧ Ok h1 := by
  refine WF_of Try.func25 rfl (hs.s25 _ _) (by rw [Try.ntmps25]; simp) (by rw [Try.ntmps25]; decide) ?_
  rw [Try.ntmps25, Try.results25]
  simp only [Sl.setMany_cons, Sl.setMany_nil, Nat.zero_add, Nat.reduceAdd]
  have hlen64 := lok.len
  have hgap := lok.gap
  have hroom := lok.room
  have pok : ∀ y ∈ plains L, 0 ≤ y ∧ y ≤ 1099511627776 := fun y hy => by
    obtain ⟨z, hz, rfl⟩ := List.mem_map.1 hy
    exact (lok.ok z hz).plain
  (repeat refine W_seq ?_); refine W_region ?_
  (refine VO ?_)
  refine WO_nil ?_; (repeat refine W_seq ?_)
  refine W_region ?_
  (refine VO ?_)
  refine WO_fn (ee) (by simp) (by decide) ((refplains_fn hs3 ok hi (by omega)).mono ?_)
  rintro r h1 ⟨x, rfl, g1, u1, o1⟩
  have hn1 := u1.next
  (refine VO ?_)
  refine WO_nil ?_; (repeat refine W_seq ?_)
  refine W_region ?_
  iterate 2 (refine VO ?_)
  refine WO_fn (ee) (by simp) (by decide) ((reflength_fn hs g1.ints (by simp [plains]; omega) (fun y hy => by have := pok y hy; omega) (by omega)).mono ?_)
  rintro r h1 ⟨rfl, rfl⟩
  (refine VO ?_)
  (refine VX (ex_bin ee ee in_lss) ?_)
  (refine VO ?_)
  rw [show decide (sumI (plains L) gap < room) = grows0 L gap room from rfl]
  generalize hG : grows0 L gap room = G
  refine WO_nil ?_; (repeat refine W_seq ?_)
  refine W_region ?_
  (refine VO ?_)
  refine WO_val (hi.len (ee)) (by decide) ?_
  refine WO_mk (ee) mk61 (by omega) (by omega) o1 (by decide) fun h2 n2 => ?_
  have e2 := n2.next
  (refine VO ?_)
  refine WO_nil ?_; (repeat refine W_seq ?_)
  have k2 : RW h2 v x h1.next h.next L (plains L) (List.replicate L.length false) :=
    ⟨(hi.upLt u1).upLt n2.up, g1.up n2.up fun q hq => (g1.lt hq).2, by have := n2.cells; rw [begin_bools] at this; exact this, by simp [plains], by simp, by omega, fun e => by have := (g1.lt e).2; omega, fun q hq => hi.lt hq, n2.may⟩
  have u2 : Up (· < h.next) h h2 := u1.trans (n2.up.mono fun b hb => by omega)
  have o2 := n2.ok
  generalize h1.next = qf at *
  clear n2 g1 o1 e2 u1 hn1
  refine W_region ?_
  (refine VO ?_)
  refine WO_nil ?_; (repeat refine W_seq ?_)
  refine W_cut (fun T h3 => T.get 0 = some (.one v) ∧ T.get 1 = some (.one (.i .i64 gap)) ∧ T.get 2 = some (.one (.i .i64 room)) ∧ T.get 7 = some (.one x) ∧ T.get 8 = some (.one (.b G)) ∧ T.get 9 = some (.one (.sl qf 0 L.length L.length 1 true)) ∧ RW h3 v x qf h.next L (plains L) (L.map (Itm.fixed0 G)) ∧ Up (· < h.next) h h3 ∧ Ok h3) ?_ ?_
  · refine W_block (W_rounds (fun j T h3 => ∃ k, j = L.length - k ∧ k ≤ L.length ∧ T.get 0 = some (.one v) ∧ T.get 1 = some (.one (.i .i64 gap)) ∧ T.get 2 = some (.one (.i .i64 room)) ∧ T.get 7 = some (.one x) ∧ T.get 8 = some (.one (.b G)) ∧ T.get 9 = some (.one (.sl qf 0 L.length L.length 1 true)) ∧ T.get 10 = some (.one (.i .i64 (k : Int))) ∧ RW h3 v x qf h.next L (plains L) ((L.take k).map (Itm.fixed0 G) ++ List.replicate (L.length - k) false) ∧ Up (· < h.next) h h3 ∧ Ok h3) ?_ L.length _ _ ⟨0, rfl, by omega, gs, gs, gs, gs, gs, gs, gs, k2, u2, o2⟩)
    clear k2 u2 o2
    rintro j T h3 ⟨k, rfl, hk, t0, t1, t2, t7, t8, t9, t10, k3, u3, o3⟩
    have hn3 := u3.next
    (repeat refine W_seq ?_); refine W_region ?_
    iterate 2 (refine VX (by simp only [go_sem, ↓reduceIte, Nat.reduceEqDiff, Nat.reduceAdd, t0, t10]; rfl) ?_)
    refine WO_val (hi.len (ee)) (by decide) ?_
    (refine VX (ex_bin (by simp only [go_sem, ↓reduceIte, Nat.reduceEqDiff, t10]; rfl) (by simp only [go_sem, ↓reduceIte, Nat.reduceEqDiff, t10]; rfl) in_lss) ?_)
    refine WO_nil ?_; (repeat refine W_seq ?_)
    refine W_cond (ee) (fun hlt => W_skip ?_) (fun hge => W_exit ?_)
    · have hlt : (k : Int) < (L.length : Int) := by simpa using hlt
      have hlt : k < L.length := by omega
      obtain ⟨y, hy⟩ : ∃ y, L[k]? = some y := ⟨_, List.getElem?_eq_getElem hlt⟩
      have hyo := lok.ok y (List.mem_of_getElem? hy)
      have hyb := hyo.base
      have hyp := hyo.plain
      obtain ⟨b, o, c, ex, rfl, hbn, hrows⟩ := k3.at hlt
      have hkls := k3.ls
      have hklt := k3.lt
      obtain ⟨qs, rfl, cs, hqs, ms⟩ := k3.sizes.whole (by omega)
      have hqf : qs ≠ qf := fun e => k3.ne (by rw [e]; rfl)
      have r1 := hrows k y hy
      have r10 : h3.row b (o + k * 5 + 0) 1 = some [.i .i64 y.base] := row_sub (j := 0) r1 rfl
      have r5 : h3.row qs k 1 = some [.i .i64 y.plain] := cs.at1 (nums_get (by simp [plains, hy]))
      repeat refine W_seq ?_
      refine W_block ?_
      refine W_drawn dr25_7 (by kernel_rfl) o3.floor ?_
      unfold dr25_7
      iterate 7 (first | (refine IX rfl (by simp only [go_sem, ↓reduceIte, Nat.reduceEqDiff, Nat.reduceAdd, t0, t8, t9, t10]; rfl) ?_) | (refine IX rfl (by simp (disch := first | omega | simp) only [go_sem, ↓reduceIte, Nat.reduceEqDiff, Nat.reduceAdd, t0, t8, t9, t10]; rfl) ?_) | (refine IL rfl wantB_none (by simp only [go_sem, ↓reduceIte, Nat.reduceEqDiff, t0, t8, t9, t10]; rfl) (by simp (disch := first | omega | simp) only [go_sem, ↓reduceIte, Nat.reduceEqDiff, Nat.reduceAdd, r1]; rfl) ?_))
      refine WI_call rfl rfl (doCall_fn (ee) (by simp)) (by decide) ?_
      refine (refweight_fn hs hyo (o3.fenced (fun b hb => (by (try simp only [cond_true, cond_false]); repeat (first | exact Off.nil | refine Off.seen rfl ?_ | refine Off.off (by omega) ?_))) (fun b hb => (by (try simp only [cond_true, cond_false]); repeat (first | exact Off.nil | refine Off.seen rfl ?_ | refine Off.off (by omega) ?_))) o3.floor)).mono ?_
      rintro r h4 ⟨rfl, u4', e4', o4'⟩
      have u4 := u4'.back
      have o4 := o3.back u4'
      have e4 : (h3.back h4).next = h4.next := rfl
      change Up (· < h3.next) h3 _ at u4
      change h4.next = h3.next + 1 at e4'
      clear u4' o4'
      generalize h3.back h4 = h5 at *
      have k5 := k3.upLt u4
      have r1 : h5.row b (o + k * 5 + 0) 1 = some [.i .i64 y.base] := by rw [u4.row (by omega)]; exact r10
      have r5 : h5.row qs k 1 = some [.i .i64 y.plain] := by rw [u4.row hqs.2]; exact r5
      have m5 := k5.may
      have f5 := k5.fixed
      have fin : ∀ h10 (T' : Sl) {xs : List S}, Put h5 h10 qf 4 xs → xs = bools ((L.take (k + 1)).map (Itm.fixed0 G) ++ List.replicate (L.length - (k + 1)) false) → T'.get 0 = some (.one (.sl b o L.length c 5 ex)) → T'.get 1 = some (.one (.i .i64 gap)) → T'.get 2 = some (.one (.i .i64 room)) → T'.get 7 = some (.one (.sl qs 0 (plains L).length (plains L).length 1 false)) → T'.get 8 = some (.one (.b G)) → T'.get 9 = some (.one (.sl qf 0 L.length L.length 1 true)) → T'.get 10 = some (.one (.i .i64 ((k : Int) + 1))) →
          ∃ j, j < L.length - k ∧ ∃ k, j = L.length - k ∧ k ≤ L.length ∧ T'.get 0 = some (.one (.sl b o L.length c 5 ex)) ∧ T'.get 1 = some (.one (.i .i64 gap)) ∧ T'.get 2 = some (.one (.i .i64 room)) ∧ T'.get 7 = some (.one (.sl qs 0 (plains L).length (plains L).length 1 false)) ∧ T'.get 8 = some (.one (.b G)) ∧ T'.get 9 = some (.one (.sl qf 0 L.length L.length 1 true)) ∧ T'.get 10 = some (.one (.i .i64 (k : Int))) ∧ RW h10 (.sl b o L.length c 5 ex) (.sl qs 0 (plains L).length (plains L).length 1 false) qf h.next L (plains L) ((L.take k).map (Itm.fixed0 G) ++ List.replicate (L.length - k) false) ∧ Up (· < h.next) h h10 ∧ Ok h10 := by
        intro h10 T' xs p10 hxs q0 q1 q2 q7 q8 q9 q10
        subst hxs
        exact ⟨L.length - (k + 1), by omega, k + 1, rfl, hlt, q0, q1, q2, q7, q8, q9, by rw [q10]; rfl, k5.putFix p10 (by simp; omega), (u3.trans (u4.mono fun b hb => by omega)).trans (p10.up.mono fun b hb => by omega), p10.ok o4⟩
      have hfl : k + 1 ≤ (bools ((L.take k).map (Itm.fixed0 G) ++ List.replicate (L.length - k) false)).length := by simp [bools]; omega
      by_cases hz : y.weight G = 0
      · have hz' : decide (y.weight G = 0) = true := decide_eq_true hz
        iterate 33 (first | (refine IX rfl (ex_bin (by simp only [go_sem, ↓reduceIte, Nat.reduceEqDiff, t0, t7, t8, t10, hz']; rfl) (by simp only [go_sem, ↓reduceIte, Nat.reduceEqDiff, t0, t7, t8, t10, hz']; rfl) in_eql) ?_) | (refine IX rfl (by simp only [go_sem, ↓reduceIte, Nat.reduceEqDiff, Nat.reduceAdd, t0, t7, t8, t10, hz']; rfl) ?_) | (refine IN rfl (wantB_no rfl rfl (by simp only [go_sem, ↓reduceIte, Nat.reduceEqDiff, t0, t7, t8, t10, hz']; rfl) rfl) ?_) | (refine IG rfl (wantB_true rfl rfl (by simp only [go_sem, ↓reduceIte, Nat.reduceEqDiff, t0, t7, t8, t10, hz']; rfl) rfl) (by simp only [go_sem, ↓reduceIte, Nat.reduceEqDiff, Nat.reduceAdd, t0, t7, t8, t10, hz']; rfl) ?_) | (refine IG rfl (wantB_true rfl rfl (by simp only [go_sem, ↓reduceIte, Nat.reduceEqDiff, t0, t7, t8, t10, hz']; rfl) rfl) (by simp (disch := first | omega | simp) only [go_sem, ↓reduceIte, Nat.reduceEqDiff, Nat.reduceAdd, t0, t7, t8, t10, hz']; rfl) ?_) | (refine IL rfl (wantB_true rfl rfl (by simp only [go_sem, ↓reduceIte, Nat.reduceEqDiff, t0, t7, t8, t10, hz']; rfl) rfl) (by simp only [go_sem, ↓reduceIte, Nat.reduceEqDiff, t0, t7, t8, t10, hz']; rfl) (by simp (disch := first | omega | simp) only [go_sem, ↓reduceIte, Nat.reduceEqDiff, Nat.reduceAdd, r1, r5]; rfl) ?_) | (refine IG rfl (wantB_true rfl rfl (by simp only [go_sem, ↓reduceIte, Nat.reduceEqDiff, t0, t7, t8, t10, hz']; rfl) rfl) (ex_bin (by simp only [go_sem, ↓reduceIte, Nat.reduceEqDiff, t0, t7, t8, t10, hz']; rfl) (by simp only [go_sem, ↓reduceIte, Nat.reduceEqDiff, t0, t7, t8, t10, hz']; rfl) in_gtr) ?_) | (refine IG rfl (wantB_true rfl rfl (by simp only [go_sem, ↓reduceIte, Nat.reduceEqDiff, t0, t7, t8, t10, hz']; rfl) rfl) (ex_not (by simp only [go_sem, ↓reduceIte, Nat.reduceEqDiff, t0, t7, t8, t10, hz']; rfl)) ?_) | (refine IG rfl (wantB_true rfl rfl (by simp only [go_sem, ↓reduceIte, Nat.reduceEqDiff, t0, t7, t8, t10, hz']; rfl) rfl) (ex_bin (by simp only [go_sem, ↓reduceIte, Nat.reduceEqDiff, t0, t7, t8, t10, hz']; rfl) (by simp only [go_sem, ↓reduceIte, Nat.reduceEqDiff, t0, t7, t8, t10, hz']; rfl) in_lss) ?_) | (refine IX rfl (by simp (disch := first | omega | simp) only [go_sem, ↓reduceIte, Nat.reduceEqDiff, Nat.reduceAdd, t0, t7, t8, t10, hz']; rfl) ?_))
        refine WI_store1 rfl (by (simp only [go_sem, ↓reduceIte, Nat.reduceEqDiff, hz'] <;> rfl)) (by (simp only [go_sem, ↓reduceIte, Nat.reduceEqDiff, hz'] <;> rfl)) sz4 f5 m5 hfl (by (try simp only [cond_true, cond_false]); repeat (first | exact Off.nil | refine Off.seen rfl ?_ | refine Off.off (by omega) ?_)) (by (try simp only [cond_true, cond_false]); repeat (first | exact Off.nil | refine Off.seen rfl ?_ | refine Off.off (by omega) ?_)) (H.may_iff m5).1.1 fun h10 p10 => ?_
        refine WI_nil ?_; (repeat refine W_seq ?_)
        refine W_region ?_
        iterate 3 (first | (refine VX (by simp only [go_sem, ↓reduceIte, Nat.reduceEqDiff, Nat.reduceAdd, t10]; rfl) ?_) | (refine VX (ex_bin (by simp only [go_sem, ↓reduceIte, Nat.reduceEqDiff, t10]; rfl) (by simp only [go_sem, ↓reduceIte, Nat.reduceEqDiff, t10]; rfl) in_add) ?_; (try rw [wrap_id (by omega) (by omega)])))
        refine WO_nil (fin h10 _ p10 (fixed_step hy (true) ?_) (gt t0) (gt t1) (gt t2) (gt t7) (gt t8) (gt t9) (gs))
        unfold Itm.fixed0; rw [hz']; rfl
      · have hz' : decide (y.weight G = 0) = false := decide_eq_false hz
        cases G with
        | true =>
          by_cases hp : y.plain < y.base
          · have hp' : decide (y.plain < y.base) = true := decide_eq_true hp
            iterate 33 (first | (refine IX rfl (ex_bin (by simp only [go_sem, ↓reduceIte, Nat.reduceEqDiff, t0, t7, t8, t10, hz', hp']; rfl) (by simp only [go_sem, ↓reduceIte, Nat.reduceEqDiff, t0, t7, t8, t10, hz', hp']; rfl) in_eql) ?_) | (refine IX rfl (by simp only [go_sem, ↓reduceIte, Nat.reduceEqDiff, Nat.reduceAdd, t0, t7, t8, t10, hz', hp']; rfl) ?_) | (refine IN rfl (wantB_no rfl rfl (by simp only [go_sem, ↓reduceIte, Nat.reduceEqDiff, t0, t7, t8, t10, hz', hp']; rfl) rfl) ?_) | (refine IG rfl (wantB_true rfl rfl (by simp only [go_sem, ↓reduceIte, Nat.reduceEqDiff, t0, t7, t8, t10, hz', hp']; rfl) rfl) (by simp only [go_sem, ↓reduceIte, Nat.reduceEqDiff, Nat.reduceAdd, t0, t7, t8, t10, hz', hp']; rfl) ?_) | (refine IG rfl (wantB_true rfl rfl (by simp only [go_sem, ↓reduceIte, Nat.reduceEqDiff, t0, t7, t8, t10, hz', hp']; rfl) rfl) (by simp (disch := first | omega | simp) only [go_sem, ↓reduceIte, Nat.reduceEqDiff, Nat.reduceAdd, t0, t7, t8, t10, hz', hp']; rfl) ?_) | (refine IL rfl (wantB_true rfl rfl (by simp only [go_sem, ↓reduceIte, Nat.reduceEqDiff, t0, t7, t8, t10, hz', hp']; rfl) rfl) (by simp only [go_sem, ↓reduceIte, Nat.reduceEqDiff, t0, t7, t8, t10, hz', hp']; rfl) (by simp (disch := first | omega | simp) only [go_sem, ↓reduceIte, Nat.reduceEqDiff, Nat.reduceAdd, r1, r5]; rfl) ?_) | (refine IG rfl (wantB_true rfl rfl (by simp only [go_sem, ↓reduceIte, Nat.reduceEqDiff, t0, t7, t8, t10, hz', hp']; rfl) rfl) (ex_bin (by simp only [go_sem, ↓reduceIte, Nat.reduceEqDiff, t0, t7, t8, t10, hz', hp']; rfl) (by simp only [go_sem, ↓reduceIte, Nat.reduceEqDiff, t0, t7, t8, t10, hz', hp']; rfl) in_gtr) ?_) | (refine IG rfl (wantB_true rfl rfl (by simp only [go_sem, ↓reduceIte, Nat.reduceEqDiff, t0, t7, t8, t10, hz', hp']; rfl) rfl) (ex_not (by simp only [go_sem, ↓reduceIte, Nat.reduceEqDiff, t0, t7, t8, t10, hz', hp']; rfl)) ?_) | (refine IG rfl (wantB_true rfl rfl (by simp only [go_sem, ↓reduceIte, Nat.reduceEqDiff, t0, t7, t8, t10, hz', hp']; rfl) rfl) (ex_bin (by simp only [go_sem, ↓reduceIte, Nat.reduceEqDiff, t0, t7, t8, t10, hz', hp']; rfl) (by simp only [go_sem, ↓reduceIte, Nat.reduceEqDiff, t0, t7, t8, t10, hz', hp']; rfl) in_lss) ?_) | (refine IX rfl (by simp (disch := first | omega | simp) only [go_sem, ↓reduceIte, Nat.reduceEqDiff, Nat.reduceAdd, t0, t7, t8, t10, hz', hp']; rfl) ?_))
            refine WI_store1 rfl (by (simp only [go_sem, ↓reduceIte, Nat.reduceEqDiff, hz', hp'] <;> rfl)) (by (simp only [go_sem, ↓reduceIte, Nat.reduceEqDiff, hz', hp'] <;> rfl)) sz4 f5 m5 hfl (by (try simp only [cond_true, cond_false]); repeat (first | exact Off.nil | refine Off.seen rfl ?_ | refine Off.off (by omega) ?_)) (by (try simp only [cond_true, cond_false]); repeat (first | exact Off.nil | refine Off.seen rfl ?_ | refine Off.off (by omega) ?_)) (H.may_iff m5).1.1 fun h10 p10 => ?_
            refine WI_nil ?_; (repeat refine W_seq ?_)
            refine W_region ?_
            iterate 3 (first | (refine VX (by simp only [go_sem, ↓reduceIte, Nat.reduceEqDiff, Nat.reduceAdd, t10]; rfl) ?_) | (refine VX (ex_bin (by simp only [go_sem, ↓reduceIte, Nat.reduceEqDiff, t10]; rfl) (by simp only [go_sem, ↓reduceIte, Nat.reduceEqDiff, t10]; rfl) in_add) ?_; (try rw [wrap_id (by omega) (by omega)])))
            refine WO_nil (fin h10 _ p10 (fixed_step hy (true) ?_) (gt t0) (gt t1) (gt t2) (gt t7) (gt t8) (gt t9) (gs))
            unfold Itm.fixed0; rw [hz', hp']; rfl
          · have hp' : decide (y.plain < y.base) = false := decide_eq_false hp
            iterate 33 (first | (refine IX rfl (ex_bin (by simp only [go_sem, ↓reduceIte, Nat.reduceEqDiff, t0, t7, t8, t10, hz', hp', Bool.not_true]; rfl) (by simp only [go_sem, ↓reduceIte, Nat.reduceEqDiff, t0, t7, t8, t10, hz', hp', Bool.not_true]; rfl) in_eql) ?_) | (refine IX rfl (by simp only [go_sem, ↓reduceIte, Nat.reduceEqDiff, Nat.reduceAdd, t0, t7, t8, t10, hz', hp', Bool.not_true]; rfl) ?_) | (refine IN rfl (wantB_no rfl rfl (by simp only [go_sem, ↓reduceIte, Nat.reduceEqDiff, t0, t7, t8, t10, hz', hp', Bool.not_true]; rfl) rfl) ?_) | (refine IG rfl (wantB_true rfl rfl (by simp only [go_sem, ↓reduceIte, Nat.reduceEqDiff, t0, t7, t8, t10, hz', hp', Bool.not_true]; rfl) rfl) (by simp only [go_sem, ↓reduceIte, Nat.reduceEqDiff, Nat.reduceAdd, t0, t7, t8, t10, hz', hp', Bool.not_true]; rfl) ?_) | (refine IG rfl (wantB_true rfl rfl (by simp only [go_sem, ↓reduceIte, Nat.reduceEqDiff, t0, t7, t8, t10, hz', hp', Bool.not_true]; rfl) rfl) (by simp (disch := first | omega | simp) only [go_sem, ↓reduceIte, Nat.reduceEqDiff, Nat.reduceAdd, t0, t7, t8, t10, hz', hp', Bool.not_true]; rfl) ?_) | (refine IL rfl (wantB_true rfl rfl (by simp only [go_sem, ↓reduceIte, Nat.reduceEqDiff, t0, t7, t8, t10, hz', hp', Bool.not_true]; rfl) rfl) (by simp only [go_sem, ↓reduceIte, Nat.reduceEqDiff, t0, t7, t8, t10, hz', hp', Bool.not_true]; rfl) (by simp (disch := first | omega | simp) only [go_sem, ↓reduceIte, Nat.reduceEqDiff, Nat.reduceAdd, r1, r5]; rfl) ?_) | (refine IG rfl (wantB_true rfl rfl (by simp only [go_sem, ↓reduceIte, Nat.reduceEqDiff, t0, t7, t8, t10, hz', hp', Bool.not_true]; rfl) rfl) (ex_bin (by simp only [go_sem, ↓reduceIte, Nat.reduceEqDiff, t0, t7, t8, t10, hz', hp', Bool.not_true]; rfl) (by simp only [go_sem, ↓reduceIte, Nat.reduceEqDiff, t0, t7, t8, t10, hz', hp', Bool.not_true]; rfl) in_gtr) ?_) | (refine IG rfl (wantB_true rfl rfl (by simp only [go_sem, ↓reduceIte, Nat.reduceEqDiff, t0, t7, t8, t10, hz', hp', Bool.not_true]; rfl) rfl) (ex_not (by simp only [go_sem, ↓reduceIte, Nat.reduceEqDiff, t0, t7, t8, t10, hz', hp', Bool.not_true]; rfl)) ?_) | (refine IG rfl (wantB_true rfl rfl (by simp only [go_sem, ↓reduceIte, Nat.reduceEqDiff, t0, t7, t8, t10, hz', hp', Bool.not_true]; rfl) rfl) (ex_bin (by simp only [go_sem, ↓reduceIte, Nat.reduceEqDiff, t0, t7, t8, t10, hz', hp', Bool.not_true]; rfl) (by simp only [go_sem, ↓reduceIte, Nat.reduceEqDiff, t0, t7, t8, t10, hz', hp', Bool.not_true]; rfl) in_lss) ?_) | (refine IX rfl (by simp (disch := first | omega | simp) only [go_sem, ↓reduceIte, Nat.reduceEqDiff, Nat.reduceAdd, t0, t7, t8, t10, hz', hp', Bool.not_true]; rfl) ?_))
            refine WI_store1 rfl (by (simp only [go_sem, ↓reduceIte, Nat.reduceEqDiff, hz', hp', Bool.not_true] <;> rfl)) (by (simp only [go_sem, ↓reduceIte, Nat.reduceEqDiff, hz', hp', Bool.not_true] <;> rfl)) sz4 f5 m5 hfl (by (try simp only [cond_true, cond_false]); repeat (first | exact Off.nil | refine Off.seen rfl ?_ | refine Off.off (by omega) ?_)) (by (try simp only [cond_true, cond_false]); repeat (first | exact Off.nil | refine Off.seen rfl ?_ | refine Off.off (by omega) ?_)) (H.may_iff m5).1.1 fun h10 p10 => ?_
            refine WI_nil ?_; (repeat refine W_seq ?_)
            refine W_region ?_
            iterate 3 (first | (refine VX (by simp only [go_sem, ↓reduceIte, Nat.reduceEqDiff, Nat.reduceAdd, t10]; rfl) ?_) | (refine VX (ex_bin (by simp only [go_sem, ↓reduceIte, Nat.reduceEqDiff, t10]; rfl) (by simp only [go_sem, ↓reduceIte, Nat.reduceEqDiff, t10]; rfl) in_add) ?_; (try rw [wrap_id (by omega) (by omega)])))
            refine WO_nil (fin h10 _ p10 (fixed_step hy (false) ?_) (gt t0) (gt t1) (gt t2) (gt t7) (gt t8) (gt t9) (gs))
            unfold Itm.fixed0; rw [hz', hp']; rfl
        | false =>
          iterate 33 (first | (refine IX rfl (ex_bin (by simp only [go_sem, ↓reduceIte, Nat.reduceEqDiff, t0, t7, t8, t10, hz', Bool.not_false]; rfl) (by simp only [go_sem, ↓reduceIte, Nat.reduceEqDiff, t0, t7, t8, t10, hz', Bool.not_false]; rfl) in_eql) ?_) | (refine IX rfl (by simp only [go_sem, ↓reduceIte, Nat.reduceEqDiff, Nat.reduceAdd, t0, t7, t8, t10, hz', Bool.not_false]; rfl) ?_) | (refine IN rfl (wantB_no rfl rfl (by simp only [go_sem, ↓reduceIte, Nat.reduceEqDiff, t0, t7, t8, t10, hz', Bool.not_false]; rfl) rfl) ?_) | (refine IG rfl (wantB_true rfl rfl (by simp only [go_sem, ↓reduceIte, Nat.reduceEqDiff, t0, t7, t8, t10, hz', Bool.not_false]; rfl) rfl) (by simp only [go_sem, ↓reduceIte, Nat.reduceEqDiff, Nat.reduceAdd, t0, t7, t8, t10, hz', Bool.not_false]; rfl) ?_) | (refine IG rfl (wantB_true rfl rfl (by simp only [go_sem, ↓reduceIte, Nat.reduceEqDiff, t0, t7, t8, t10, hz', Bool.not_false]; rfl) rfl) (by simp (disch := first | omega | simp) only [go_sem, ↓reduceIte, Nat.reduceEqDiff, Nat.reduceAdd, t0, t7, t8, t10, hz', Bool.not_false]; rfl) ?_) | (refine IL rfl (wantB_true rfl rfl (by simp only [go_sem, ↓reduceIte, Nat.reduceEqDiff, t0, t7, t8, t10, hz', Bool.not_false]; rfl) rfl) (by simp only [go_sem, ↓reduceIte, Nat.reduceEqDiff, t0, t7, t8, t10, hz', Bool.not_false]; rfl) (by simp (disch := first | omega | simp) only [go_sem, ↓reduceIte, Nat.reduceEqDiff, Nat.reduceAdd, r1, r5]; rfl) ?_) | (refine IG rfl (wantB_true rfl rfl (by simp only [go_sem, ↓reduceIte, Nat.reduceEqDiff, t0, t7, t8, t10, hz', Bool.not_false]; rfl) rfl) (ex_bin (by simp only [go_sem, ↓reduceIte, Nat.reduceEqDiff, t0, t7, t8, t10, hz', Bool.not_false]; rfl) (by simp only [go_sem, ↓reduceIte, Nat.reduceEqDiff, t0, t7, t8, t10, hz', Bool.not_false]; rfl) in_gtr) ?_) | (refine IG rfl (wantB_true rfl rfl (by simp only [go_sem, ↓reduceIte, Nat.reduceEqDiff, t0, t7, t8, t10, hz', Bool.not_false]; rfl) rfl) (ex_not (by simp only [go_sem, ↓reduceIte, Nat.reduceEqDiff, t0, t7, t8, t10, hz', Bool.not_false]; rfl)) ?_) | (refine IG rfl (wantB_true rfl rfl (by simp only [go_sem, ↓reduceIte, Nat.reduceEqDiff, t0, t7, t8, t10, hz', Bool.not_false]; rfl) rfl) (ex_bin (by simp only [go_sem, ↓reduceIte, Nat.reduceEqDiff, t0, t7, t8, t10, hz', Bool.not_false]; rfl) (by simp only [go_sem, ↓reduceIte, Nat.reduceEqDiff, t0, t7, t8, t10, hz', Bool.not_false]; rfl) in_lss) ?_) | (refine IX rfl (by simp (disch := first | omega | simp) only [go_sem, ↓reduceIte, Nat.reduceEqDiff, Nat.reduceAdd, t0, t7, t8, t10, hz', Bool.not_false]; rfl) ?_))
          refine WI_store1 rfl (by (simp only [go_sem, ↓reduceIte, Nat.reduceEqDiff, hz', Bool.not_false] <;> rfl)) (by (simp only [go_sem, ↓reduceIte, Nat.reduceEqDiff, hz', Bool.not_false] <;> rfl)) sz4 f5 m5 hfl (by (try simp only [cond_true, cond_false]); repeat (first | exact Off.nil | refine Off.seen rfl ?_ | refine Off.off (by omega) ?_)) (by (try simp only [cond_true, cond_false]); repeat (first | exact Off.nil | refine Off.seen rfl ?_ | refine Off.off (by omega) ?_)) (H.may_iff m5).1.1 fun h10 p10 => ?_
          refine WI_nil ?_; (repeat refine W_seq ?_)
          refine W_region ?_
          iterate 3 (first | (refine VX (by simp only [go_sem, ↓reduceIte, Nat.reduceEqDiff, Nat.reduceAdd, t10]; rfl) ?_) | (refine VX (ex_bin (by simp only [go_sem, ↓reduceIte, Nat.reduceEqDiff, t10]; rfl) (by simp only [go_sem, ↓reduceIte, Nat.reduceEqDiff, t10]; rfl) in_add) ?_; (try rw [wrap_id (by omega) (by omega)])))
          refine WO_nil (fin h10 _ p10 (fixed_step hy (decide (y.base < y.plain)) ?_) (gt t0) (gt t1) (gt t2) (gt t7) (gt t8) (gt t9) (gs))
          unfold Itm.fixed0; rw [hz']; simp
    · have hge : ¬ (k : Int) < (L.length : Int) := by simpa using hge
      have hk : k = L.length := by omega
      subst hk
      rw [List.take_length, Nat.sub_self, List.replicate_zero, List.append_nil] at k3
      exact ⟨fun _ => ⟨rfl, t0, t1, t2, t7, t8, t9, k3, u3, o3⟩, fun hne => absurd rfl hne⟩
  clear k2 u2 o2
  rintro T h3 ⟨t0, t1, t2, t7, t8, t9, k3, u3, o3⟩
  have hR : solveLoop prtI L gap room G (L.length + 1) (plains L) (L.map (Itm.fixed0 G)) = solveI prtI L gap room := by unfold solveI; rw [hG]
  have hcnt : (L.map (Itm.fixed0 G)).count false ≤ L.length := by have := List.count_le_length (a := false) (l := L.map (Itm.fixed0 G)); simpa using this
  have hgm : ∀ m : Int, 0 ≤ m → m ≤ 64 → 0 ≤ gap * m ∧ gap * m ≤ 70368744177664 := fun m h0 h1 => by
    refine ⟨Int.mul_nonneg lok.gap.1 h0, ?_⟩
    have q1 : gap * m ≤ 1099511627776 * m := Int.mul_le_mul_of_nonneg_right lok.gap.2 h0
    omega
  have hg1 := hgm (max 0 ((L.length : Int) - 1)) (by omega) (by omega)
  refine W_block (W_rounds (fun j T h3 => ∃ ss fx n, j = fx.count false ∧ T.get 0 = some (.one v) ∧ T.get 1 = some (.one (.i .i64 gap)) ∧ T.get 2 = some (.one (.i .i64 room)) ∧ T.get 7 = some (.one x) ∧ T.get 8 = some (.one (.b G)) ∧ T.get 9 = some (.one (.sl qf 0 L.length L.length 1 true)) ∧ RW h3 v x qf h.next L ss fx ∧ (∀ s ∈ ss, 0 ≤ s ∧ s ≤ 1099511627776) ∧ (∀ i, fx[i]? = some false → (L.getD i default).weight G ≠ 0) ∧ fx.count false < n ∧ solveLoop prtI L gap room G n ss fx = solveI prtI L gap room ∧ Up (· < h.next) h h3 ∧ Ok h3) ?_ _ _ _ ⟨plains L, L.map (Itm.fixed0 G), L.length + 1, rfl, t0, t1, t2, t7, t8, t9, k3, pok, ?_, by omega, hR, u3, o3⟩)
  rotate_left
  · intro i hi'
    rw [List.getElem?_map] at hi'
    cases hy : L[i]? with
    | none => rw [hy] at hi'; simp at hi'
    | some y =>
      rw [hy] at hi'
      have hy' : L.getD i default = y := by rw [List.getD_eq_getElem?_getD, hy]; rfl
      rw [hy']
      intro h0
      simp [Itm.fixed0, h0] at hi'
  clear t0 t1 t2 t7 t8 t9 k3 u3 o3 hR hcnt pok
  rintro j T h3 ⟨ss, fx, n, rfl, t0, t1, t2, t7, t8, t9, k3, sok, hw, hn, hR, u3, o3⟩
  have hn3 := u3.next
  have hls := k3.ls
  have hlf := k3.lf
  have hopl := opens_length 0 fx
  have hxlt := fun q (hq : S.blk x = some q) => (k3.sizes.lt hq).2
  have hqflt := k3.lt
  refine W_block ?_
  (repeat refine W_seq ?_); refine W_region ?_
  iterate 3 (refine VX (by simp only [go_sem, ↓reduceIte, Nat.reduceEqDiff, Nat.reduceAdd, t0, t1, t2]; rfl) ?_)
  refine WO_val (hi.len (by (simp only [go_sem, ↓reduceIte, Nat.reduceEqDiff, t0] <;> rfl))) (by decide) ?_
  iterate 5 (first | (refine VX (ex_bin ee ee in_sub) ?_; (try rw [wrap_id (by omega) (by omega)])) | (refine VX (ex_max (by simp only [go_sem, ↓reduceIte, Nat.reduceEqDiff]; rfl) (by simp only [go_sem, ↓reduceIte, Nat.reduceEqDiff]; rfl)) ?_) | (refine VX (ex_bin ee ee in_mul) ?_; (try rw [wrap_id (by omega) (by omega)])) | (refine VO ?_))
  have hN' : -70368744177664 ≤ room - gap * max 0 ((L.length : Int) - 1) ∧ room - gap * max 0 ((L.length : Int) - 1) ≤ 1099511627776 := by omega
  have hfree : freeN L gap room G ss fx = if G then max (room - gap * max 0 ((L.length : Int) - 1) - taken L ss fx) 0 else max (-(room - gap * max 0 ((L.length : Int) - 1) - taken L ss fx)) 0 := rfl
  generalize room - gap * max 0 ((L.length : Int) - 1) = N at hN' hfree ⊢
  refine WO_nil ?_; (repeat refine W_seq ?_)
  refine W_region ?_
  iterate 2 (refine VO ?_)
  refine WO_nil ?_; (repeat refine W_seq ?_)
  refine W_region ?_
  (refine VO ?_)
  refine WO_nil ?_; (repeat refine W_seq ?_)
  refine W_cut (fun T h4 => ∃ xo xw, T.get 0 = some (.one v) ∧ T.get 1 = some (.one (.i .i64 gap)) ∧ T.get 2 = some (.one (.i .i64 room)) ∧ T.get 7 = some (.one x) ∧ T.get 8 = some (.one (.b G)) ∧ T.get 9 = some (.one (.sl qf 0 L.length L.length 1 true)) ∧ T.get 11 = some (.one (.i .i64 (N - taken L ss fx))) ∧ T.get 12 = some (.one xo) ∧ T.get 13 = some (.one xw) ∧ Grown h4 xo h3.next 3 1 (idx (opens 0 fx)) ∧ Grown h4 xw h3.next 3 1 (nums (wtsI L G (opens 0 fx))) ∧ Up (· < h3.next) h3 h4 ∧ Ok h4) ?_ ?_
  · refine W_block (W_rounds (fun j T h4 => ∃ k xo xw, j = L.length - k ∧ k ≤ L.length ∧ T.get 0 = some (.one v) ∧ T.get 1 = some (.one (.i .i64 gap)) ∧ T.get 2 = some (.one (.i .i64 room)) ∧ T.get 7 = some (.one x) ∧ T.get 8 = some (.one (.b G)) ∧ T.get 9 = some (.one (.sl qf 0 L.length L.length 1 true)) ∧ T.get 11 = some (.one (.i .i64 (N - taken (L.take k) (ss.take k) (fx.take k)))) ∧ T.get 12 = some (.one xo) ∧ T.get 13 = some (.one xw) ∧ T.get 14 = some (.one (.i .i64 (k : Int))) ∧ Grown h4 xo h3.next 3 1 (idx (opens 0 (fx.take k))) ∧ Grown h4 xw h3.next 3 1 (nums (wtsI L G (opens 0 (fx.take k)))) ∧ (∀ b, S.blk xo = some b → S.blk xw ≠ some b) ∧ Up (· < h3.next) h3 h4 ∧ Ok h4) ?_ L.length _ _ ⟨0, .sl0, .sl0, rfl, by omega, gt t0, gt t1, gt t2, gt t7, gt t8, gt t9, by simp only [List.take_zero, taken]; simp only [go_sem, ↓reduceIte, Nat.reduceEqDiff, Int.sub_zero], gs, gs, gs, .nil, .nil, (fun b hb => by cases hb), .refl _ _, o3⟩)
    clear t0 t1 t2 t7 t8 t9
    rintro j T h4 ⟨k, xo, xw, rfl, hk, t0, t1, t2, t7, t8, t9, t11, t12, t13, t14, go, gw, hd, u4, o4⟩
    have hn4 := u4.next
    have k4 := k3.upLt u4
    have hb1 := taken_bound (L := L.take k) (ss := ss.take k) (fx := fx.take k) (fun y hy => lok.ok y (List.mem_of_mem_take hy)) (fun y hy => sok y (List.mem_of_mem_take hy))
    have hb2 : (L.take k).length = k := by simp; omega
    rw [hb2] at hb1
    (repeat refine W_seq ?_); refine W_region ?_
    iterate 2 (refine VX (by simp only [go_sem, ↓reduceIte, Nat.reduceEqDiff, Nat.reduceAdd, t0, t14]; rfl) ?_)
    refine WO_val (hi.len (ee)) (by decide) ?_
    (refine VX (ex_bin (by simp only [go_sem, ↓reduceIte, Nat.reduceEqDiff, t14]; rfl) (by simp only [go_sem, ↓reduceIte, Nat.reduceEqDiff, t14]; rfl) in_lss) ?_)
    refine WO_nil ?_; (repeat refine W_seq ?_)
    refine W_cond (ee) (fun hlt => W_skip ?_) (fun hge => W_exit ?_)
    · have hlt : (k : Int) < (L.length : Int) := by simpa using hlt
      have hlt : k < L.length := by omega
      obtain ⟨y, hy⟩ : ∃ y, L[k]? = some y := ⟨_, List.getElem?_eq_getElem hlt⟩
      obtain ⟨s, hsx⟩ : ∃ s, ss[k]? = some s := ⟨_, List.getElem?_eq_getElem (by omega)⟩
      obtain ⟨f, hfx⟩ : ∃ f, fx[k]? = some f := ⟨_, List.getElem?_eq_getElem (by omega)⟩
      have hyo := lok.ok y (List.mem_of_getElem? hy)
      have hyb := hyo.base
      have hso := sok s (List.mem_of_getElem? hsx)
      obtain ⟨b, o, c, ex, rfl, hbn, hrows⟩ := k4.at hlt
      have hklt := k4.lt
      obtain ⟨qs, rfl, cs, hqs, ms⟩ := k4.sizes.whole (by omega)
      have r1 := hrows k y hy
      have r10 : h4.row b (o + k * 5 + 0) 1 = some [.i .i64 y.base] := row_sub (j := 0) r1 rfl
      have r5 : h4.row qs k 1 = some [.i .i64 s] := cs.at1 (nums_get hsx)
      have r6 : h4.row qf k 1 = some [.b f] := k4.fixed.at1 (by simp [bools, hfx])
      have hT := taken_take hls hlf hy hsx hfx
      have hO := opens_take hfx
      have hopk := opens_length 0 (fx.take k)
      have hopk2 : (fx.take k).length = k := by simp; omega
      repeat refine W_seq ?_
      refine W_block ?_
      (repeat refine W_seq ?_); refine W_region ?_
      iterate 2 (refine VX (by simp only [go_sem, ↓reduceIte, Nat.reduceEqDiff, Nat.reduceAdd, t9, t14]; rfl) ?_)
      (refine VX (by simp (disch := first | omega | simp) only [go_sem, ↓reduceIte, Nat.reduceEqDiff, Nat.reduceAdd, t9, t14]; rfl) ?_)
      (refine VX (by simp (disch := first | omega | simp) only [go_sem, ↓reduceIte, Nat.reduceEqDiff, Nat.reduceAdd, r6, t9, t14]; rfl) ?_)
      refine WO_nil ?_; (repeat refine W_seq ?_)
      refine W_cond (ee) (fun hf => ?_) (fun hf => W_skip ?_)
      · subst hf
        (repeat refine W_seq ?_); refine W_region ?_
        iterate 7 (first | (refine VX (by simp only [go_sem, ↓reduceIte, Nat.reduceEqDiff, Nat.reduceAdd, t7, t11, t14]; rfl) ?_) | (refine VX (by simp (disch := first | omega | simp) only [go_sem, ↓reduceIte, Nat.reduceEqDiff, Nat.reduceAdd, t7, t11, t14]; rfl) ?_) | (refine VX (by simp (disch := first | omega | simp) only [go_sem, ↓reduceIte, Nat.reduceEqDiff, Nat.reduceAdd, r5, t7, t11, t14]; rfl) ?_) | (refine VX (ex_bin (by simp only [go_sem, ↓reduceIte, Nat.reduceEqDiff, t7, t11, t14]; rfl) (by simp only [go_sem, ↓reduceIte, Nat.reduceEqDiff, t7, t11, t14]; rfl) in_sub) ?_; (try rw [wrap_id (by omega) (by omega)])))
        refine WO_nil ?_; (repeat refine W_seq ?_)
        refine W_exit ?_
        refine ⟨fun _ => ?_, fun hne => absurd rfl hne⟩
        refine W_region ?_
        iterate 3 (first | (refine VX (by simp only [go_sem, ↓reduceIte, Nat.reduceEqDiff, Nat.reduceAdd, t14]; rfl) ?_) | (refine VX (ex_bin (by simp only [go_sem, ↓reduceIte, Nat.reduceEqDiff, t14]; rfl) (by simp only [go_sem, ↓reduceIte, Nat.reduceEqDiff, t14]; rfl) in_add) ?_; (try rw [wrap_id (by omega) (by omega)])))
        refine WO_nil ⟨L.length - (k + 1), by omega, k + 1, xo, xw, rfl, hlt, gt t0, gt t1, gt t2, gt t7, gt t8, gt t9, ?_, gt t12, gt t13, gs, go.same (by rw [hO]; simp), gw.same (by rw [hO]; simp), hd, u4, o4⟩
        rw [hT, if_pos rfl]
        simp only [go_sem, ↓reduceIte, Nat.reduceEqDiff]
        congr 3; omega
      · subst hf
        (repeat refine W_seq ?_); refine W_region ?_
        iterate 8 (first | (refine VX (by simp only [go_sem, ↓reduceIte, Nat.reduceEqDiff, Nat.reduceAdd, t0, t11, t14]; rfl) ?_) | (refine VX (by simp (disch := first | omega | simp) only [go_sem, ↓reduceIte, Nat.reduceEqDiff, Nat.reduceAdd, t0, t11, t14]; rfl) ?_) | (refine VX (by simp (disch := first | omega | simp) only [go_sem, ↓reduceIte, Nat.reduceEqDiff, Nat.reduceAdd, r10, t0, t11, t14]; rfl) ?_) | (refine VX (ex_bin (by simp only [go_sem, ↓reduceIte, Nat.reduceEqDiff, t0, t11, t14]; rfl) (by simp only [go_sem, ↓reduceIte, Nat.reduceEqDiff, t0, t11, t14]; rfl) in_sub) ?_; (try rw [wrap_id (by omega) (by omega)])))
        refine WO_nil ?_; (repeat refine W_seq ?_)
        refine W_region ?_
        iterate 2 (refine VX (by simp only [go_sem, ↓reduceIte, Nat.reduceEqDiff, Nat.reduceAdd, t12, t14]; rfl) ?_)
        refine WO_bs1 el23 ⟨_, ze23⟩ (ee) o4 (by decide) fun h5 n5 => ?_
        have e5 := n5.next
        have go5 := go.up n5.up fun q hq => (go.lt hq).2
        have gw5 := gw.up n5.up fun q hq => (gw.lt hq).2
        refine WO_app (n0 := h3.next) ap23_23 (by (simp only [go_sem, ↓reduceIte, Nat.reduceEqDiff, t12] <;> rfl)) (ee) n5.cells rfl go5 n5.ok (by omega) (m := (opens 0 (fx.take k)).length) (by simp [idx]) (by omega) (by omega) (by decide) fun xo6 h6 g6 => ?_
        have e6 := g6.next
        have hb6 := g6.blk
        have gw6 := gw5.up g6.up fun q hq => ⟨by have := (gw.lt hq).2; omega, fun e => hd _ e hq⟩
        have u6 : Up (· < h3.next) h3 h6 := (u4.trans (n5.up.mono fun b hb => by omega)).trans (g6.below go5 (by omega))
        (refine VO ?_)
        refine WO_nil ?_; (repeat refine W_seq ?_)
        refine W_region ?_
        have u46 : Up (· < h3.next) h4 h6 := (n5.up.mono fun b hb => by omega).trans (g6.below go5 (by omega))
        have r1 : h6.row b (o + k * 5) 5 = some y.cells := by rw [u46.row (show b < h3.next by omega)]; exact r1
        iterate 6 (first | (refine VX (by simp only [go_sem, ↓reduceIte, Nat.reduceEqDiff, Nat.reduceAdd, t0, t8, t13, t14]; rfl) ?_) | (refine VX (by simp (disch := first | omega | simp) only [go_sem, ↓reduceIte, Nat.reduceEqDiff, Nat.reduceAdd, t0, t8, t13, t14]; rfl) ?_) | (refine VX (by simp (disch := first | omega | simp) only [go_sem, ↓reduceIte, Nat.reduceEqDiff, Nat.reduceAdd, r1, t0, t8, t13, t14]; rfl) ?_))
        refine WO_fn (by (simp only [go_sem, ↓reduceIte, Nat.reduceEqDiff, t8] <;> rfl)) (by simp) (by decide) ((refweight_fn hs hyo g6.ok).mono ?_)
        rintro r h7 ⟨rfl, u7, e7, o7⟩
        refine WO_bs1 el23 ⟨_, ze23⟩ (ee) o7 (by decide) fun h8 n8 => ?_
        have e8 := n8.next
        have u68 : Up (· < h6.next) h6 h8 := u7.trans (n8.up.mono fun b hb => by omega)
        have go8 := g6.grown.up u68 fun q hq => (g6.grown.lt hq).2
        have gw8 := gw6.up u68 fun q hq => (gw6.lt hq).2
        refine WO_app (n0 := h3.next) ap23_23 (by (simp only [go_sem, ↓reduceIte, Nat.reduceEqDiff, t13] <;> rfl)) (ee) n8.cells rfl gw8 n8.ok (by omega) (m := (opens 0 (fx.take k)).length) (by simp [nums, wtsI]) (by omega) (by omega) (by decide) fun xw9 h9 g9 => ?_
        have e9 := g9.next
        have hb9 := g9.blk
        have go9 := go8.up g9.up fun q hq => ⟨by have := (go8.lt hq).2; omega, fun e => by have q1 := (gw.lt e).2; rw [hb6] at hq; have q2 := Option.some.inj hq; omega⟩
        have u9 : Up (· < h3.next) h3 h9 := (u6.trans (u68.mono fun b hb => by omega)).trans (g9.below gw8 (by omega))
        (refine VO ?_)
        refine WO_nil ?_; (repeat refine W_seq ?_)
        refine W_region ?_
        iterate 3 (first | (refine VX (by simp only [go_sem, ↓reduceIte, Nat.reduceEqDiff, Nat.reduceAdd, t14]; rfl) ?_) | (refine VX (ex_bin (by simp only [go_sem, ↓reduceIte, Nat.reduceEqDiff, t14]; rfl) (by simp only [go_sem, ↓reduceIte, Nat.reduceEqDiff, t14]; rfl) in_add) ?_; (try rw [wrap_id (by omega) (by omega)])))
        refine WO_nil ⟨L.length - (k + 1), by omega, k + 1, xo6, xw9, rfl, hlt, gt t0, gt t1, gt t2, gt t7, gt t8, gt t9, ?_, gs, gs, gs, go9.same (by rw [hO, idx_append]; rfl), g9.grown.same ?_, fun b hb e => ?_, u9, g9.ok⟩
        · rw [hT, if_neg (by simp)]
          simp only [go_sem, ↓reduceIte, Nat.reduceEqDiff]
          congr 3; omega
        · rw [hO]
          unfold wtsI
          rw [List.map_append, nums_append]
          have hD : L.getD k default = y := by rw [List.getD_eq_getElem?_getD, hy]; rfl
          simp only [Bool.false_eq_true, if_false, List.map_cons, List.map_nil, hD]
          rfl
        · rw [hb9] at e; rw [hb6] at hb; have q1 := Option.some.inj hb; have q2 := Option.some.inj e; omega
    · have hge : ¬ (k : Int) < (L.length : Int) := by simpa using hge
      have hk : k = L.length := by omega
      subst hk
      rw [List.take_of_length_le (by omega)] at go gw
      rw [List.take_length, List.take_of_length_le (by omega), List.take_of_length_le (by omega)] at t11
      exact ⟨fun _ => ⟨rfl, xo, xw, t0, t1, t2, t7, t8, t9, t11, t12, t13, go, gw, u4, o4⟩, fun hne => absurd rfl hne⟩
  clear t0 t1 t2 t7 t8 t9
  rintro T h4 ⟨xo, xw, t0, t1, t2, t7, t8, t9, t11, t12, t13, go, gw, u4, o4⟩
  have hn4 := u4.next
  have k4 := k3.upLt u4
  have hil : (idx (opens 0 fx)).length = (opens 0 fx).length := by simp [idx]
  (repeat refine W_seq ?_); refine W_region ?_
  (refine VX (by simp only [go_sem, ↓reduceIte, Nat.reduceEqDiff, Nat.reduceAdd, t12]; rfl) ?_)
  refine WO_val (go.len (ee)) (by decide) ?_
  (refine VX (ex_bin ee ee in_eql) ?_)
  refine WO_nil ?_; (repeat refine W_seq ?_)
  refine W_cond (ee) (fun hz => ?_) (fun hz => W_skip ?_)
  · have hz : opens 0 fx = [] := by
      have : ((idx (opens 0 fx)).length : Int) = 0 := by simpa using hz
      exact List.eq_nil_of_length_eq_zero (by omega)
    have hss : solveI prtI L gap room = ss := by
      rw [← hR]
      obtain ⟨n, rfl⟩ : ∃ m, n = m + 1 := ⟨n - 1, by omega⟩
      show (if opens 0 fx = [] then ss else _) = ss
      rw [if_pos hz]
    (repeat refine W_seq ?_); refine W_region ?_
    iterate 2 (refine VX (by simp only [go_sem, ↓reduceIte, Nat.reduceEqDiff, Nat.reduceAdd, t7]; rfl) ?_)
    refine WO_nil (W_ret ⟨.inr rfl, _, by (simp only [resultB, resB, parts, V.part, Sl.get_set', ↓reduceIte, Nat.reduceEqDiff] <;> rfl), x, rfl, ?_, u3.trans (u4.mono fun b hb => by omega), o4⟩)
    rw [hss]
    exact k4.sizes
  have hne : opens 0 fx ≠ [] := fun e => by rw [e] at hz; simp [idx] at hz
  have hpos : 0 < (opens 0 fx).length := List.length_pos_iff.2 hne
  have hof : ∀ i ∈ opens 0 fx, fx[i]? = some false := fun i hi' => by have := ((opens_mem fx 0 i).1 hi').2; simpa using this
  have holt : ∀ i ∈ opens 0 fx, i < L.length := fun i hi' => by have := (List.getElem?_eq_some_iff.1 (hof i hi')).1; omega
  have hnd := opens_nodup fx 0
  have hww : ∀ w ∈ wtsI L G (opens 0 fx), 0 < w ∧ w ≤ 1048576 := fun w hw' => by
    obtain ⟨m, hm, rfl⟩ := List.mem_map.1 hw'
    have h0 := hw m (hof m hm)
    have hmo := lok.at (holt m hm)
    have hb := hmo.mul
    have hg := hmo.gr
    revert h0
    unfold Itm.weight
    split <;> intro h0 <;> omega
  have htk := taken_bound (L := L) (ss := ss) (fx := fx) (fun y hy => lok.ok y hy) sok
  obtain ⟨n, rfl⟩ : ∃ m, n = m + 1 := ⟨n - 1, by omega⟩
  have hR : solveLoop prtI L gap room G n (roundS L (opens 0 fx) (sharedI prtI L gap room G ss fx (opens 0 fx)) ss) (roundF L (opens 0 fx) (sharedI prtI L gap room G ss fx (opens 0 fx)) fx) = solveI prtI L gap room := by
    rw [← hR]
    show _ = (if opens 0 fx = [] then ss else _)
    rw [if_neg hne]
  generalize hM : N - taken L ss fx = M at *
  have hM' : -140737488355328 ≤ M ∧ M ≤ 1099511627776 := by omega
  repeat refine W_seq ?_
  refine W_cut (fun T h5 => h5 = h4 ∧ T.get 0 = some (.one v) ∧ T.get 1 = some (.one (.i .i64 gap)) ∧ T.get 2 = some (.one (.i .i64 room)) ∧ T.get 7 = some (.one x) ∧ T.get 8 = some (.one (.b G)) ∧ T.get 9 = some (.one (.sl qf 0 L.length L.length 1 true)) ∧ T.get 11 = some (.one (.i .i64 M)) ∧ T.get 12 = some (.one xo) ∧ T.get 13 = some (.one xw) ∧ T.get 140 = some (.one (.b ((G && decide (M < 0)) || (!G && decide (0 < M)))))) ?_ ?_
  · refine W_region ?_
    (refine VX (by simp only [go_sem, ↓reduceIte, Nat.reduceEqDiff, Nat.reduceAdd, t8, t11]; rfl) ?_)
    (refine VX (by simp only [go_sem, ↓reduceIte, Nat.reduceEqDiff, Nat.reduceAdd, t8, t11]; rfl) ?_)
    refine WO_grd rfl rfl (by simp only [go_sem, ↓reduceIte, Nat.reduceEqDiff, t8, t11]; rfl) (fun c1 => ?_) (fun c1 => ?_)
    · (refine VG (wantB_true rfl rfl (by simp only [go_sem, ↓reduceIte, Nat.reduceEqDiff, t8, t11, c1]; rfl) rfl) (by simp only [go_sem, ↓reduceIte, Nat.reduceEqDiff, Nat.reduceAdd, t8, t11, c1]; rfl) ?_)
      (refine VG (wantB_true rfl rfl (by simp only [go_sem, ↓reduceIte, Nat.reduceEqDiff, t8, t11, c1]; rfl) rfl) (ex_bin (by simp only [go_sem, ↓reduceIte, Nat.reduceEqDiff, t8, t11, c1]; rfl) (by simp only [go_sem, ↓reduceIte, Nat.reduceEqDiff, t8, t11, c1]; rfl) in_lss) ?_)
      (refine VX (by simp only [go_sem, ↓reduceIte, Nat.reduceEqDiff, Nat.reduceAdd, t8, t11, c1]; rfl) ?_)
      (refine VX (by simp only [go_sem, ↓reduceIte, Nat.reduceEqDiff, Nat.reduceAdd, t8, t11, c1]; rfl) ?_)
      refine WO_grd rfl rfl (by simp only [go_sem, ↓reduceIte, Nat.reduceEqDiff, t8, t11, c1]; rfl) (fun c2 => ?_) (fun c2 => ?_)
      · refine VN (wantB_no rfl rfl (by simp only [go_sem, ↓reduceIte, Nat.reduceEqDiff, t8, t11, c1, c2]; rfl) rfl) ?_
        refine VN (wantB_no rfl rfl (by simp only [go_sem, ↓reduceIte, Nat.reduceEqDiff, t8, t11, c1, c2]; rfl) rfl) ?_
        refine VN (wantB_no rfl rfl (by simp only [go_sem, ↓reduceIte, Nat.reduceEqDiff, t8, t11, c1, c2]; rfl) rfl) ?_
        refine VN (wantB_no rfl rfl (by simp only [go_sem, ↓reduceIte, Nat.reduceEqDiff, t8, t11, c1, c2]; rfl) rfl) ?_
        refine VN (wantB_no rfl rfl (by simp only [go_sem, ↓reduceIte, Nat.reduceEqDiff, t8, t11, c1, c2]; rfl) rfl) ?_
        refine VN (wantB_no rfl rfl (by simp only [go_sem, ↓reduceIte, Nat.reduceEqDiff, t8, t11, c1, c2]; rfl) rfl) ?_
        (refine VX (by simp only [go_sem, ↓reduceIte, Nat.reduceEqDiff, Nat.reduceAdd, t8, t11, c1, c2]; rfl) ?_)
        refine WO_nil ⟨rfl, rfl, by (simp only [go_sem, ↓reduceIte, Nat.reduceEqDiff, t0, c1, c2] <;> first | rfl | simp), by (simp only [go_sem, ↓reduceIte, Nat.reduceEqDiff, t1, c1, c2] <;> first | rfl | simp), by (simp only [go_sem, ↓reduceIte, Nat.reduceEqDiff, t2, c1, c2] <;> first | rfl | simp), by (simp only [go_sem, ↓reduceIte, Nat.reduceEqDiff, t7, c1, c2] <;> first | rfl | simp), by simp only [go_sem, ↓reduceIte, Nat.reduceEqDiff]; exact t8, by (simp only [go_sem, ↓reduceIte, Nat.reduceEqDiff, t9, c1, c2] <;> first | rfl | simp), by (simp only [go_sem, ↓reduceIte, Nat.reduceEqDiff, t11, c1, c2] <;> first | rfl | simp), by (simp only [go_sem, ↓reduceIte, Nat.reduceEqDiff, t12, c1, c2] <;> first | rfl | simp), by (simp only [go_sem, ↓reduceIte, Nat.reduceEqDiff, t13, c1, c2] <;> first | rfl | simp), ?_⟩
        simp only [go_sem, ↓reduceIte, Nat.reduceEqDiff, c1, c2]
        simp [c1, c2]
      · (refine VG (wantB_true rfl rfl (by simp only [go_sem, ↓reduceIte, Nat.reduceEqDiff, t8, t11, c1, c2]; rfl) rfl) (by simp only [go_sem, ↓reduceIte, Nat.reduceEqDiff, Nat.reduceAdd, t8, t11, c1, c2]; rfl) ?_)
        (refine VG (wantB_true rfl rfl (by simp only [go_sem, ↓reduceIte, Nat.reduceEqDiff, t8, t11, c1, c2]; rfl) rfl) (ex_not (by simp only [go_sem, ↓reduceIte, Nat.reduceEqDiff, t8, t11, c1, c2]; rfl)) ?_)
        (refine VG (wantB_true rfl rfl (by simp only [go_sem, ↓reduceIte, Nat.reduceEqDiff, t8, t11, c1, c2]; rfl) rfl) (by simp only [go_sem, ↓reduceIte, Nat.reduceEqDiff, Nat.reduceAdd, t8, t11, c1, c2]; rfl) ?_)
        refine VN (wantB_no rfl rfl (by simp only [go_sem, ↓reduceIte, Nat.reduceEqDiff, t8, t11, c1, c2]; rfl) rfl) ?_
        refine VN (wantB_no rfl rfl (by simp only [go_sem, ↓reduceIte, Nat.reduceEqDiff, t8, t11, c1, c2]; rfl) rfl) ?_
        (refine VG (wantB_true rfl rfl (by simp only [go_sem, ↓reduceIte, Nat.reduceEqDiff, t8, t11, c1, c2]; rfl) rfl) (by simp only [go_sem, ↓reduceIte, Nat.reduceEqDiff, Nat.reduceAdd, t8, t11, c1, c2]; rfl) ?_)
        (refine VX (by simp only [go_sem, ↓reduceIte, Nat.reduceEqDiff, Nat.reduceAdd, t8, t11, c1, c2]; rfl) ?_)
        refine WO_nil ⟨rfl, rfl, by (simp only [go_sem, ↓reduceIte, Nat.reduceEqDiff, t0, c1, c2] <;> first | rfl | simp), by (simp only [go_sem, ↓reduceIte, Nat.reduceEqDiff, t1, c1, c2] <;> first | rfl | simp), by (simp only [go_sem, ↓reduceIte, Nat.reduceEqDiff, t2, c1, c2] <;> first | rfl | simp), by (simp only [go_sem, ↓reduceIte, Nat.reduceEqDiff, t7, c1, c2] <;> first | rfl | simp), by simp only [go_sem, ↓reduceIte, Nat.reduceEqDiff]; exact t8, by (simp only [go_sem, ↓reduceIte, Nat.reduceEqDiff, t9, c1, c2] <;> first | rfl | simp), by (simp only [go_sem, ↓reduceIte, Nat.reduceEqDiff, t11, c1, c2] <;> first | rfl | simp), by (simp only [go_sem, ↓reduceIte, Nat.reduceEqDiff, t12, c1, c2] <;> first | rfl | simp), by (simp only [go_sem, ↓reduceIte, Nat.reduceEqDiff, t13, c1, c2] <;> first | rfl | simp), ?_⟩
        simp only [go_sem, ↓reduceIte, Nat.reduceEqDiff, c1, c2]
        simp [c1, c2]
    · refine VN (wantB_no rfl rfl (by simp only [go_sem, ↓reduceIte, Nat.reduceEqDiff, t8, t11, c1]; rfl) rfl) ?_
      refine VN (wantB_no rfl rfl (by simp only [go_sem, ↓reduceIte, Nat.reduceEqDiff, t8, t11, c1]; rfl) rfl) ?_
      (refine VX (by simp only [go_sem, ↓reduceIte, Nat.reduceEqDiff, Nat.reduceAdd, t8, t11, c1]; rfl) ?_)
      (refine VX (by simp only [go_sem, ↓reduceIte, Nat.reduceEqDiff, Nat.reduceAdd, t8, t11, c1]; rfl) ?_)
      (refine VG (wantB_true rfl rfl (by simp only [go_sem, ↓reduceIte, Nat.reduceEqDiff, t8, t11, c1]; rfl) rfl) (by simp only [go_sem, ↓reduceIte, Nat.reduceEqDiff, Nat.reduceAdd, t8, t11, c1]; rfl) ?_)
      (refine VG (wantB_true rfl rfl (by simp only [go_sem, ↓reduceIte, Nat.reduceEqDiff, t8, t11, c1]; rfl) rfl) (ex_not (by simp only [go_sem, ↓reduceIte, Nat.reduceEqDiff, t8, t11, c1]; rfl)) ?_)
      (refine VG (wantB_true rfl rfl (by simp only [go_sem, ↓reduceIte, Nat.reduceEqDiff, t8, t11, c1]; rfl) rfl) (by simp only [go_sem, ↓reduceIte, Nat.reduceEqDiff, Nat.reduceAdd, t8, t11, c1]; rfl) ?_)
      (refine VG (wantB_true rfl rfl (by simp only [go_sem, ↓reduceIte, Nat.reduceEqDiff, t8, t11, c1]; rfl) rfl) (by simp only [go_sem, ↓reduceIte, Nat.reduceEqDiff, Nat.reduceAdd, t8, t11, c1]; rfl) ?_)
      (refine VG (wantB_true rfl rfl (by simp only [go_sem, ↓reduceIte, Nat.reduceEqDiff, t8, t11, c1]; rfl) rfl) (ex_bin (by simp only [go_sem, ↓reduceIte, Nat.reduceEqDiff, t8, t11, c1]; rfl) (by simp only [go_sem, ↓reduceIte, Nat.reduceEqDiff, t8, t11, c1]; rfl) in_gtr) ?_)
      (refine VG (wantB_true rfl rfl (by simp only [go_sem, ↓reduceIte, Nat.reduceEqDiff, t8, t11, c1]; rfl) rfl) (by simp only [go_sem, ↓reduceIte, Nat.reduceEqDiff, Nat.reduceAdd, t8, t11, c1]; rfl) ?_)
      (refine VX (by simp only [go_sem, ↓reduceIte, Nat.reduceEqDiff, Nat.reduceAdd, t8, t11, c1]; rfl) ?_)
      refine WO_nil ⟨rfl, rfl, by (simp only [go_sem, ↓reduceIte, Nat.reduceEqDiff, t0, c1] <;> first | rfl | simp), by (simp only [go_sem, ↓reduceIte, Nat.reduceEqDiff, t1, c1] <;> first | rfl | simp), by (simp only [go_sem, ↓reduceIte, Nat.reduceEqDiff, t2, c1] <;> first | rfl | simp), by (simp only [go_sem, ↓reduceIte, Nat.reduceEqDiff, t7, c1] <;> first | rfl | simp), by simp only [go_sem, ↓reduceIte, Nat.reduceEqDiff]; exact t8, by (simp only [go_sem, ↓reduceIte, Nat.reduceEqDiff, t9, c1] <;> first | rfl | simp), by (simp only [go_sem, ↓reduceIte, Nat.reduceEqDiff, t11, c1] <;> first | rfl | simp), by (simp only [go_sem, ↓reduceIte, Nat.reduceEqDiff, t12, c1] <;> first | rfl | simp), by (simp only [go_sem, ↓reduceIte, Nat.reduceEqDiff, t13, c1] <;> first | rfl | simp), ?_⟩
      simp only [go_sem, ↓reduceIte, Nat.reduceEqDiff, c1]
      simp [c1]
  clear t0 t1 t2 t7 t8 t9 t11 t12 t13
  rintro T h5 ⟨rfl, t0, t1, t2, t7, t8, t9, t11, t12, t13, t140⟩
  refine W_cut (fun T h6 => h6 = h5 ∧ ∃ fr, T.get 0 = some (.one v) ∧ T.get 1 = some (.one (.i .i64 gap)) ∧ T.get 2 = some (.one (.i .i64 room)) ∧ T.get 7 = some (.one x) ∧ T.get 8 = some (.one (.b G)) ∧ T.get 9 = some (.one (.sl qf 0 L.length L.length 1 true)) ∧ T.get 11 = some (.one (.i .i64 fr)) ∧ T.get 12 = some (.one xo) ∧ T.get 13 = some (.one xw) ∧ min 1099511627776 (max fr (-fr)) = min (freeN L gap room G ss fx) 1099511627776 ∧ -140737488355328 ≤ fr ∧ fr ≤ 1099511627776) ?_ ?_
  · refine W_cond (by (simp only [go_sem, ↓reduceIte, Nat.reduceEqDiff, t140] <;> rfl)) (fun hc => ?_) (fun hc => W_skip ?_)
    · refine W_region ?_
      (refine VO ?_)
      refine WO_nil ⟨rfl, rfl, 0, gt t0, gt t1, gt t2, gt t7, gt t8, gt t9, gs, gt t12, gt t13, ?_, by omega, by omega⟩
      rw [hfree]
      cases G <;> simp at hc ⊢ <;> omega
    · refine ⟨rfl, rfl, M, t0, t1, t2, t7, t8, t9, t11, t12, t13, ?_, by omega, by omega⟩
      rw [hfree]
      cases G <;> simp at hc ⊢ <;> omega
  clear t0 t1 t2 t7 t8 t9 t11 t12 t13 t140
  rintro T h5 ⟨rfl, fr, t0, t1, t2, t7, t8, t9, t11, t12, t13, hfr, hfr1, hfr2⟩
  have hfb := free_bd L gap room G ss fx
  have hmay : Lf.May (min (freeN L gap room G ss fx) 1099511627776) (wtsI L G (opens 0 fx)) := may_of (by omega) (by omega) (by simpa [wtsI] using hne) (by simp [wtsI]; omega) hww
  obtain ⟨K, hK⟩ := refprt hmay
  have hwl : (wtsI L G (opens 0 fx)).length = (opens 0 fx).length := by simp [wtsI]
  (repeat refine W_seq ?_); refine W_region ?_
  iterate 6 (first | (refine VX (by simp only [go_sem, ↓reduceIte, Nat.reduceEqDiff, Nat.reduceAdd, t11, t13]; rfl) ?_) | (refine VX (ex_neg (by simp only [go_sem, ↓reduceIte, Nat.reduceEqDiff, t11, t13]; rfl)) ?_; (try rw [wrap_id (by omega) (by omega)])) | (refine VX (ex_max (by simp only [go_sem, ↓reduceIte, Nat.reduceEqDiff, t11, t13]; rfl) (by simp only [go_sem, ↓reduceIte, Nat.reduceEqDiff, t11, t13]; rfl)) ?_) | (refine VX (ex_min (by simp only [go_sem, ↓reduceIte, Nat.reduceEqDiff, t11, t13]; rfl) (by simp only [go_sem, ↓reduceIte, Nat.reduceEqDiff, t11, t13]; rfl)) ?_))
  rw [hfr]
  refine WO_fn (by (simp only [go_sem, ↓reduceIte, Nat.reduceEqDiff, t13] <;> rfl)) (by simp) (by decide) ((split_fn hs.s18 o4 gw.ints (by simpa [wtsI] using hne) (by omega) hK).mono ?_)
  rintro r h6 ⟨xp, rfl, gp, u6, o6⟩
  have hn6 := u6.next
  (refine VO ?_)
  have hpl := prtI_len (min (freeN L gap room G ss fx) 1099511627776) (wtsI L G (opens 0 fx))
  have hpn := prtI_nn (t := min (freeN L gap room G ss fx) 1099511627776) (ws := wtsI L G (opens 0 fx))
  have hpb : ∀ p ∈ prtI (min (freeN L gap room G ss fx) 1099511627776) (wtsI L G (opens 0 fx)), 0 ≤ p ∧ p ≤ 1099511627776 := fun p hp => by
    have h1 := prtI_sum hmay
    have h2 := (le_sumI _ hpn).2 p hp
    have h3 := hpn p hp
    omega
  have hX : sharedI prtI L gap room G ss fx (opens 0 fx) = List.zipWith (newI L G) (opens 0 fx) (prtI (min (freeN L gap room G ss fx) 1099511627776) (wtsI L G (opens 0 fx))) := rfl
  rw [hwl] at hpl
  generalize prtI (min (freeN L gap room G ss fx) 1099511627776) (wtsI L G (opens 0 fx)) = ps at *
  generalize hXs : sharedI prtI L gap room G ss fx (opens 0 fx) = xs at *
  have hxl : xs.length = (opens 0 fx).length := by rw [hX]; simp; omega
  have hxb : ∀ x ∈ xs, 0 ≤ x ∧ x ≤ 1099511627776 := by
    intro x hx
    rw [hX] at hx
    obtain ⟨i, hi, p, hp, rfl⟩ := zip_mem hx
    have hpp := hpb p hp
    have hb := (lok.at (holt i hi)).base
    unfold newI; split <;> omega
  clear hmay hK hXs hfree hfr hww hpn hwl
  have hless := round_less (L := L) hxl hne hnd hof
  have hrff := fun i => roundF_false (L := L) (opn := opens 0 fx) (xs := xs) (i := i) hof
  obtain ⟨qo, rfl, co, hqo, mo⟩ : ∃ q, xo = .sl q 0 (opens 0 fx).length (opens 0 fx).length 1 false ∧ Cells h5 q 3 (idx (opens 0 fx)) ∧ (h3.next ≤ q ∧ q < h5.next) ∧ h5.may q = true := by
    have gc := go.same (idx_cast (opens 0 fx))
    obtain ⟨q, e, c, l1, m1⟩ := gc.whole (by simp [castL]; omega)
    have : (castL (opens 0 fx)).length = (opens 0 fx).length := by simp [castL]
    rw [this] at e
    exact ⟨q, e, by rw [idx_cast]; exact c, l1, m1⟩
  have hidx : ∀ {k m : Nat}, (opens 0 fx)[k]? = some m → (idx (opens 0 fx))[k]? = some (.i .i64 (m : Int)) := fun hm => by simp [idx, hm]
  obtain ⟨qp, rfl, cp, hqp, mp⟩ := gp.whole (by omega)
  have co6 := u6.cells hqo.2 co
  have k6 := k4.upLt u6
  have u36 : Up (· < h3.next) h3 h6 := u4.trans (u6.mono fun b hb => by omega)
  refine WO_nil ?_; (repeat refine W_seq ?_)
  refine W_region ?_
  (refine VO ?_)
  refine WO_nil ?_; (repeat refine W_seq ?_)
  refine W_region ?_
  (refine VO ?_)
  refine WO_nil ?_; (repeat refine W_seq ?_)
  refine W_region ?_
  (refine VO ?_)
  refine WO_nil ?_; (repeat refine W_seq ?_)
  clear go gw gp u4 o4 hn4 k4 hN' hM hM' t11 t13
  generalize hopn : opens 0 fx = opn at *
  refine W_cut (fun T h7 => ∃ xb, T.get 0 = some (.one v) ∧ T.get 1 = some (.one (.i .i64 gap)) ∧ T.get 2 = some (.one (.i .i64 room)) ∧ T.get 7 = some (.one x) ∧ T.get 8 = some (.one (.b G)) ∧ T.get 9 = some (.one (.sl qf 0 L.length L.length 1 true)) ∧ T.get 12 = some (.one (.sl qo 0 opn.length opn.length 1 false)) ∧ T.get 16 = some (.one (.i .i64 (bentI L opn xs))) ∧ T.get 17 = some (.one xb) ∧ RW h7 v x qf h.next L (roundS L opn xs ss) fx ∧ Cells h7 qo 3 (idx opn) ∧ Grown h7 xb h6.next 3 1 (nums (List.zipWith (byI L) opn xs)) ∧ Up (· < h.next) h h7 ∧ Ok h7 ∧ h6.next ≤ h7.next) ?_ ?_
  · refine W_block (W_rounds (fun j T h7 => ∃ k xb, j = opn.length - k ∧ k ≤ opn.length ∧ T.get 0 = some (.one v) ∧ T.get 1 = some (.one (.i .i64 gap)) ∧ T.get 2 = some (.one (.i .i64 room)) ∧ T.get 7 = some (.one x) ∧ T.get 8 = some (.one (.b G)) ∧ T.get 9 = some (.one (.sl qf 0 L.length L.length 1 true)) ∧ T.get 12 = some (.one (.sl qo 0 opn.length opn.length 1 false)) ∧ T.get 15 = some (.one (.sl qp 0 ps.length ps.length 1 false)) ∧ T.get 16 = some (.one (.i .i64 (sumL ((List.zipWith (byI L) opn xs).take k)))) ∧ T.get 17 = some (.one xb) ∧ T.get 18 = some (.one (.i .i64 (k : Int))) ∧ RW h7 v x qf h.next L (sets ss ((List.zipWith (pairS L) opn xs).take k)) fx ∧ Cells h7 qo 3 (idx opn) ∧ Cells h7 qp 3 (nums ps) ∧ Grown h7 xb h6.next 3 1 (nums ((List.zipWith (byI L) opn xs).take k)) ∧ Up (· < h.next) h h7 ∧ Ok h7 ∧ h6.next ≤ h7.next) ?_ opn.length _ _ ⟨0, .sl0, rfl, by omega, gt t0, gt t1, gt t2, gt t7, gt t8, gt t9, gt t12, gs, by (simp only [go_sem, ↓reduceIte, Nat.reduceEqDiff, List.take_zero, sumL] <;> first | rfl | simp), gs, gs, k6, co6, cp, .nil, u3.trans (u36.mono fun b hb => by omega), o6, by omega⟩)
    clear t0 t1 t2 t7 t8 t9 t12 k6 co6 cp o6
    rintro j T h7 ⟨k, xb, rfl, hk, t0, t1, t2, t7, t8, t9, t12, t15, t16, t17, t18, k7, co7, cp7, gb, u7, o7, hn7⟩
    have hbent : -(70368744177664 : Int) ≤ sumL ((List.zipWith (byI L) opn xs).take k) ∧ sumL ((List.zipWith (byI L) opn xs).take k) ≤ 70368744177664 := by
      have h1 := sumL_bd (B := 1099511627776) (l := (List.zipWith (byI L) opn xs).take k) (by omega) fun d hd => by
        obtain ⟨m, hm, x, hx, rfl⟩ := zip_mem (List.mem_of_mem_take hd)
        have q1 := hxb x hx
        have q2 := clampAt_bd lok (holt m hm) q1
        unfold byI; omega
      have h2 : ((List.zipWith (byI L) opn xs).take k).length ≤ 64 := by simp; omega
      omega
    (repeat refine W_seq ?_); refine W_region ?_
    iterate 2 (refine VX (by simp only [go_sem, ↓reduceIte, Nat.reduceEqDiff, Nat.reduceAdd, t12, t18]; rfl) ?_)
    (refine VX (ex_len el23 (by simp only [go_sem, ↓reduceIte, Nat.reduceEqDiff, t12, t18]; rfl)) ?_)
    (refine VX (ex_bin (by simp only [go_sem, ↓reduceIte, Nat.reduceEqDiff, t12, t18]; rfl) (by simp only [go_sem, ↓reduceIte, Nat.reduceEqDiff, t12, t18]; rfl) in_lss) ?_)
    refine WO_nil ?_; (repeat refine W_seq ?_)
    refine W_cond (ee) (fun hlt => W_skip ?_) (fun hge => W_exit ?_)
    · have hlt : (k : Int) < (opn.length : Int) := by simpa using hlt
      have hlt : k < opn.length := by omega
      obtain ⟨m, hm⟩ : ∃ m, opn[k]? = some m := ⟨_, List.getElem?_eq_getElem hlt⟩
      have hmL := holt m (List.mem_of_getElem? hm)
      obtain ⟨p, hp⟩ : ∃ p, ps[k]? = some p := ⟨_, List.getElem?_eq_getElem (by omega)⟩
      obtain ⟨xv, hxv⟩ : ∃ xv, xs[k]? = some xv := ⟨_, List.getElem?_eq_getElem (by omega)⟩
      have hxn : xv = newI L G m p := by
        rw [hX, List.getElem?_zipWith, hm, hp] at hxv
        exact (Option.some.inj hxv).symm
      have hxvb := hxb xv (List.mem_of_getElem? hxv)
      have hpp := hpb p (List.mem_of_getElem? hp)
      obtain ⟨y, hy⟩ : ∃ y, L[m]? = some y := ⟨_, List.getElem?_eq_getElem hmL⟩
      have hyd : L.getD m default = y := by rw [List.getD_eq_getElem?_getD, hy]; rfl
      have hyo := lok.ok y (List.mem_of_getElem? hy)
      have hyb := hyo.base
      have hcl : clampAt L m xv = clampI xv y.mn y.mx := by unfold clampAt; rw [hyd]
      have hclb := clampAt_bd lok hmL hxvb
      rw [hcl] at hclb
      obtain ⟨b, o, c, ex, rfl, hbn, hrows⟩ := k7.at hmL
      have hklt := k7.lt
      have hsl := sets_length ((List.zipWith (pairS L) opn xs).take k) ss
      obtain ⟨qs, rfl, cs, hqs, ms⟩ := k7.sizes.whole (by rw [hsl]; omega)
      rw [hsl] at t7 k7
      have hqs3 := hxlt qs rfl
      have r1 := hrows m y hy
      have ro := co7.at1 (hidx hm)
      have rp := cp7.at1 (nums_get hp)
      repeat refine W_seq ?_
      refine W_block ?_
      (repeat refine W_seq ?_); refine W_region ?_
      iterate 7 (first | (refine VX (by simp only [go_sem, ↓reduceIte, Nat.reduceEqDiff, Nat.reduceAdd, t0, t12, t18]; rfl) ?_) | (refine VX (by simp (disch := first | omega | simp) only [go_sem, ↓reduceIte, Nat.reduceEqDiff, Nat.reduceAdd, t0, t12, t18]; rfl) ?_) | (refine VX (by simp (disch := first | omega | simp) only [go_sem, ↓reduceIte, Nat.reduceEqDiff, Nat.reduceAdd, ro, r1, t0, t12, t18]; rfl) ?_))
      refine WO_alloc zb46 rfl o7 (by decide) fun h8 n8 => ?_
      refine WO_storeA (ee) (ee) sz46 rfl (by simp [Itm.cells]) n8.cells n8.may (by simp [Itm.cells, V.cells]) fun h9 p9 => ?_
      have c9 := p9.cells
      simp only [Itm.cells, V.cells, List.take_zero, List.nil_append, List.length_cons, List.length_nil, Nat.reduceAdd, Nat.zero_add, List.drop_succ_cons, List.drop_zero, List.append_nil] at c9
      have e8 := n8.next
      have e9 := p9.next
      have u9 : Up (· < h7.next) h7 h9 := n8.up.trans (p9.up.mono fun b hb => by omega)
      have o9 := p9.ok n8.ok
      have k9 := k7.upLt u9
      have co9 := u9.cells (by omega) co7
      have cp9 := u9.cells (by omega) cp7
      have rp9 := cp9.at1 (nums_get hp)
      have gb9 := gb.up u9 fun q hq => (gb.lt hq).2
      refine WO_nil ?_; (repeat refine W_seq ?_)
      refine W_drawn dr25_29 (by kernel_rfl) o9.floor ?_
      unfold dr25_29
      iterate 9 (first | (refine IX rfl (by simp only [go_sem, ↓reduceIte, Nat.reduceEqDiff, Nat.reduceAdd, t15, t18]; rfl) ?_) | (refine IL rfl wantB_none (by simp only [go_sem, ↓reduceIte, Nat.reduceEqDiff, t15, t18]; rfl) (by simp (disch := first | omega | simp) only [go_sem, ↓reduceIte, Nat.reduceEqDiff, Nat.reduceAdd, c9.row, rp9]; rfl) ?_) | (refine IX rfl (by simp (disch := first | omega | simp) only [go_sem, ↓reduceIte, Nat.reduceEqDiff, Nat.reduceAdd, t15, t18]; rfl) ?_) | (refine IX rfl (ex_bin (by simp only [go_sem, ↓reduceIte, Nat.reduceEqDiff, t15, t18]; rfl) (by simp only [go_sem, ↓reduceIte, Nat.reduceEqDiff, t15, t18]; rfl) in_sub) ?_; (try rw [wrap_id (by omega) (by omega)])) | (refine IX rfl (ex_max (by simp only [go_sem, ↓reduceIte, Nat.reduceEqDiff, t15, t18]; rfl) (by simp only [go_sem, ↓reduceIte, Nat.reduceEqDiff, t15, t18]; rfl)) ?_))
      refine WI_nil ?_
      refine W_seq ?_
      refine W_cut (fun T h10 => h10 = h9 ∧ T.get 0 = some (.one (.sl b o L.length c 5 ex)) ∧ T.get 1 = some (.one (.i .i64 gap)) ∧ T.get 2 = some (.one (.i .i64 room)) ∧ T.get 7 = some (.one (.sl qs 0 ss.length ss.length 1 false)) ∧ T.get 8 = some (.one (.b G)) ∧ T.get 9 = some (.one (.sl qf 0 L.length L.length 1 true)) ∧ T.get 12 = some (.one (.sl qo 0 opn.length opn.length 1 false)) ∧ T.get 15 = some (.one (.sl qp 0 ps.length ps.length 1 false)) ∧ T.get 16 = some (.one (.i .i64 (sumL ((List.zipWith (byI L) opn xs).take k)))) ∧ T.get 17 = some (.one xb) ∧ T.get 18 = some (.one (.i .i64 (k : Int))) ∧ T.get 19 = some (.one (.p h7.next 0)) ∧ T.get 20 = some (.one (.i .i64 xv))) ?_ ?_
      · (repeat refine W_seq ?_); refine W_region ?_
        (refine VX (by simp only [go_sem, ↓reduceIte, Nat.reduceEqDiff, Nat.reduceAdd, t8]; rfl) ?_)
        refine WO_nil ?_; (repeat refine W_seq ?_)
        refine W_cond (by (simp only [go_sem, ↓reduceIte, Nat.reduceEqDiff, t8] <;> rfl)) (fun hc => ?_) (fun hc => W_skip ?_)
        · subst hc
          refine W_drawn dr25_31 (by kernel_rfl) o9.floor ?_
          unfold dr25_31
          iterate 9 (first | (refine IX rfl (by simp only [go_sem, ↓reduceIte, Nat.reduceEqDiff, Nat.reduceAdd, t15, t18]; rfl) ?_) | (refine IL rfl wantB_none (by simp only [go_sem, ↓reduceIte, Nat.reduceEqDiff, t15, t18]; rfl) (by simp (disch := first | omega | simp) only [go_sem, ↓reduceIte, Nat.reduceEqDiff, Nat.reduceAdd, c9.row, rp9]; rfl) ?_) | (refine IX rfl (by simp (disch := first | omega | simp) only [go_sem, ↓reduceIte, Nat.reduceEqDiff, Nat.reduceAdd, t15, t18]; rfl) ?_) | (refine IX rfl (ex_bin (by simp only [go_sem, ↓reduceIte, Nat.reduceEqDiff, t15, t18]; rfl) (by simp only [go_sem, ↓reduceIte, Nat.reduceEqDiff, t15, t18]; rfl) in_add) ?_; (try rw [wrap_id (by omega) (by omega)])) | (refine IX rfl (ex_min (by simp only [go_sem, ↓reduceIte, Nat.reduceEqDiff, t15, t18]; rfl) (by simp only [go_sem, ↓reduceIte, Nat.reduceEqDiff, t15, t18]; rfl)) ?_))
          refine WI_nil ⟨rfl, rfl, gt t0, gt t1, gt t2, gt t7, gt t8, gt t9, gt t12, gt t15, gt t16, gt t17, gt t18, gs, ?_⟩
          rw [hxn]
          unfold newI
          rw [if_pos rfl, hyd, Int.min_comm]
          simp only [go_sem, ↓reduceIte, Nat.reduceEqDiff]
        · subst hc
          refine ⟨rfl, rfl, gt t0, gt t1, gt t2, gt t7, gt t8, gt t9, gt t12, gt t15, gt t16, gt t17, gt t18, gs, ?_⟩
          rw [hxn]
          unfold newI
          rw [if_neg (by simp), hyd, Int.max_comm]
          simp only [go_sem, ↓reduceIte, Nat.reduceEqDiff]
      clear t0 t1 t2 t7 t8 t9 t12 t15 t16 t17 t18
      rintro T h10 ⟨rfl, t0, t1, t2, t7, t8, t9, t12, t15, t16, t17, t18, t19, t20⟩
      (repeat refine W_seq ?_); refine W_region ?_
      iterate 5 (first | (refine VX (by simp only [go_sem, ↓reduceIte, Nat.reduceEqDiff, Nat.reduceAdd, t19, t20]; rfl) ?_) | (refine VX (by simp (disch := first | omega | simp) only [go_sem, ↓reduceIte, Nat.reduceEqDiff, Nat.reduceAdd, c9.row, t19, t20]; rfl) ?_))
      refine WO_fn (ee) (by simp) (by decide) ((clamp_fn hs3).mono ?_)
      rintro _ h10 ⟨rfl, rfl⟩
      (refine VO ?_)
      refine WO_nil ?_; (repeat refine W_seq ?_)
      refine W_region ?_
      have ro9 := co9.at1 (hidx hm)
      iterate 7 (first | (refine VX (by simp only [go_sem, ↓reduceIte, Nat.reduceEqDiff, Nat.reduceAdd, t7, t12, t18]; rfl) ?_) | (refine VX (by simp (disch := first | omega | simp) only [go_sem, ↓reduceIte, Nat.reduceEqDiff, Nat.reduceAdd, t7, t12, t18]; rfl) ?_) | (refine VX (by simp (disch := first | omega | simp) only [go_sem, ↓reduceIte, Nat.reduceEqDiff, Nat.reduceAdd, ro9, t7, t12, t18]; rfl) ?_))
      have cs9 := u9.cells (show qs < h7.next by omega) cs
      have ms9 : h10.may qs = true := by rw [u9.may]; exact ms
      refine WO_store1 (ee) (ee) sz3 cs9 ms9 (by rw [nums_length, hsl]; omega) fun h11 p11 => ?_
      rw [nums_set (by rw [hsl]; omega)] at p11
      have e11 := p11.next
      have k11 := k9.putSize rfl ⟨by omega, by omega⟩ (by omega) (by rw [hsl]) p11 (by simp)
      have o11 := p11.ok o9
      have co11 := p11.up.cells (show qo ≠ qs by omega) co9
      have cp11 := p11.up.cells (show qp ≠ qs by omega) cp9
      have gb11 := gb9.up p11.up fun q hq => by have := (gb9.lt hq).1; omega
      refine WO_nil ?_; (repeat refine W_seq ?_)
      refine W_region ?_
      iterate 3 (refine VX (by simp only [go_sem, ↓reduceIte, Nat.reduceEqDiff, Nat.reduceAdd, t17, t20]; rfl) ?_)
      (refine VX (ex_bin (by simp only [go_sem, ↓reduceIte, Nat.reduceEqDiff, t17, t20]; rfl) (by simp only [go_sem, ↓reduceIte, Nat.reduceEqDiff, t17, t20]; rfl) in_sub) ?_; (try rw [wrap_id (by omega) (by omega)]))
      refine WO_bs1 el23 ⟨_, ze23⟩ (ee) o11 (by decide) fun h12 n12 => ?_
      have e12 := n12.next
      have gb12 := gb11.up n12.up fun q hq => (gb11.lt hq).2
      refine WO_app (n0 := h6.next) ap23_23 (by (simp only [go_sem, ↓reduceIte, Nat.reduceEqDiff, t17] <;> rfl)) (ee) n12.cells rfl gb12 n12.ok (by omega) (m := k) (by rw [nums_length, List.length_take, List.length_zipWith]; omega) (by omega) (by omega) (by decide) fun xb13 h13 g13 => ?_
      have e13 := g13.next
      have u13 : Up (· < h6.next) h11 h13 := (n12.up.mono fun b hb => by omega).trans (g13.below gb12 (by omega))
      (refine VO ?_)
      refine WO_nil ?_; (repeat refine W_seq ?_)
      refine W_region ?_
      iterate 6 (first | (refine VX (by simp only [go_sem, ↓reduceIte, Nat.reduceEqDiff, Nat.reduceAdd, t16, t20]; rfl) ?_) | (refine VX (ex_bin (by simp only [go_sem, ↓reduceIte, Nat.reduceEqDiff, t16, t20]; rfl) (by simp only [go_sem, ↓reduceIte, Nat.reduceEqDiff, t16, t20]; rfl) in_add) ?_; (try rw [wrap_id (by omega) (by omega)])) | (refine VX (ex_bin (by simp only [go_sem, ↓reduceIte, Nat.reduceEqDiff, t16, t20]; rfl) (by simp only [go_sem, ↓reduceIte, Nat.reduceEqDiff, t16, t20]; rfl) in_sub) ?_; (try rw [wrap_id (by omega) (by omega)])))
      refine WO_nil ?_; (repeat refine W_seq ?_)
      refine W_region ?_
      iterate 3 (first | (refine VX (by simp only [go_sem, ↓reduceIte, Nat.reduceEqDiff, Nat.reduceAdd, t18]; rfl) ?_) | (refine VX (ex_bin (by simp only [go_sem, ↓reduceIte, Nat.reduceEqDiff, t18]; rfl) (by simp only [go_sem, ↓reduceIte, Nat.reduceEqDiff, t18]; rfl) in_add) ?_; (try rw [wrap_id (by omega) (by omega)])))
      have e1 : (List.zipWith (pairS L) opn xs).take (k + 1) = (List.zipWith (pairS L) opn xs).take k ++ [pairS L m xv] := zip_take hm hxv
      have e2 : (List.zipWith (byI L) opn xs).take (k + 1) = (List.zipWith (byI L) opn xs).take k ++ [byI L m xv] := zip_take hm hxv
      have k13 : RW h13 (.sl b o L.length c 5 ex) (.sl qs 0 ss.length ss.length 1 false) qf h.next L (sets ss ((List.zipWith (pairS L) opn xs).take (k + 1))) fx := by
        rw [e1, sets_snoc]
        unfold pairS
        rw [hcl]
        exact k11.up u13 (fun q hq => by omega) (fun q hq => by have q1 := Option.some.inj hq; omega) (by omega)
      have u0 : Up (· < h.next) h h13 := ((u7.trans (u9.mono fun b hb => by omega)).trans (p11.up.mono fun b hb => by omega)).trans (u13.mono fun b hb => by omega)
      refine WO_nil ⟨opn.length - (k + 1), by omega, k + 1, xb13, rfl, hlt, gt t0, gt t1, gt t2, by rw [sets_length]; simp only [go_sem, ↓reduceIte, Nat.reduceEqDiff, t7], gt t8, gt t9, gt t12, gt t15, ?_, gs, gs, by rw [sets_length]; exact k13, u13.cells (by omega) co11, u13.cells (by omega) cp11, g13.grown.same (by rw [e2, nums_append]; unfold byI; rw [hcl]; rfl), u0, g13.ok, by omega⟩
      rw [e2, sumL_append]
      unfold byI sumL
      rw [hcl]
      simp only [go_sem, ↓reduceIte, Nat.reduceEqDiff]
      congr 3
      simp [sumL]
      omega
    · have hge : ¬ (k : Int) < (opn.length : Int) := by simpa using hge
      have hk : k = opn.length := by omega
      subst hk
      have e1 : (List.zipWith (pairS L) opn xs).take opn.length = List.zipWith (pairS L) opn xs := List.take_of_length_le (by simp; omega)
      have e2 : (List.zipWith (byI L) opn xs).take opn.length = List.zipWith (byI L) opn xs := List.take_of_length_le (by simp; omega)
      rw [e1] at k7
      rw [e2] at t16 gb
      exact ⟨fun _ => ⟨rfl, xb, t0, t1, t2, t7, t8, t9, t12, t16, t17, k7, co7, gb, u7, o7, hn7⟩, fun hne => absurd rfl hne⟩
  clear t0 t1 t2 t7 t8 t9 t12 k6 co6 cp o6
  rintro T h7 ⟨xb, t0, t1, t2, t7, t8, t9, t12, t16, t17, k7, co7, gb, u7, o7, hn7⟩
  have hbl : (List.zipWith (byI L) opn xs).length = opn.length := by simp; omega
  obtain ⟨qb, rfl, cb, hqb, mb⟩ := gb.whole (by omega)
  rw [hbl] at t17
  have hBdef : bentI L opn xs = bentI L opn xs := rfl
  generalize hB : bentI L opn xs = B at *
  (repeat refine W_seq ?_); refine W_region ?_
  (refine VO ?_)
  refine WO_nil ?_; (repeat refine W_seq ?_)
  refine W_block (W_rounds (fun j T h8 => ∃ k, j = opn.length - k ∧ k ≤ opn.length ∧ T.get 0 = some (.one v) ∧ T.get 1 = some (.one (.i .i64 gap)) ∧ T.get 2 = some (.one (.i .i64 room)) ∧ T.get 7 = some (.one x) ∧ T.get 8 = some (.one (.b G)) ∧ T.get 9 = some (.one (.sl qf 0 L.length L.length 1 true)) ∧ T.get 12 = some (.one (.sl qo 0 opn.length opn.length 1 false)) ∧ T.get 16 = some (.one (.i .i64 B)) ∧ T.get 17 = some (.one (.sl qb 0 opn.length opn.length 1 false)) ∧ T.get 22 = some (.one (.i .i64 (k : Int))) ∧ RW h8 v x qf h.next L (roundS L opn xs ss) (sets fx ((List.zipWith (pairF L B) opn xs).take k)) ∧ Up (· ≠ qf) h7 h8 ∧ Ok h8) ?_ opn.length _ _ ⟨0, rfl, by omega, gt t0, gt t1, gt t2, gt t7, gt t8, gt t9, gt t12, gt t16, gt t17, gs, k7, .refl _ _, o7⟩)
  clear t0 t1 t2 t7 t8 t9 t12 t16 t17 k7 o7
  rintro j T h8 ⟨k, rfl, hk, t0, t1, t2, t7, t8, t9, t12, t16, t17, t22, k8, u8, o8⟩
  (repeat refine W_seq ?_); refine W_region ?_
  iterate 2 (refine VX (by simp only [go_sem, ↓reduceIte, Nat.reduceEqDiff, Nat.reduceAdd, t12, t22]; rfl) ?_)
  (refine VX (ex_len el23 (by simp only [go_sem, ↓reduceIte, Nat.reduceEqDiff, t12, t22]; rfl)) ?_)
  (refine VX (ex_bin (by simp only [go_sem, ↓reduceIte, Nat.reduceEqDiff, t12, t22]; rfl) (by simp only [go_sem, ↓reduceIte, Nat.reduceEqDiff, t12, t22]; rfl) in_lss) ?_)
  refine WO_nil ?_; (repeat refine W_seq ?_)
  refine W_cond (ee) (fun hlt => W_skip ?_) (fun hge => W_exit ?_)
  · have hlt : (k : Int) < (opn.length : Int) := by simpa using hlt
    have hlt : k < opn.length := by omega
    obtain ⟨m, hm⟩ : ∃ m, opn[k]? = some m := ⟨_, List.getElem?_eq_getElem hlt⟩
    have hmL := holt m (List.mem_of_getElem? hm)
    obtain ⟨xv, hxv⟩ : ∃ xv, xs[k]? = some xv := ⟨_, List.getElem?_eq_getElem (by omega)⟩
    have hbv : (List.zipWith (byI L) opn xs)[k]? = some (byI L m xv) := by rw [List.getElem?_zipWith, hm, hxv]
    have rb : h8.row qb k 1 = some [.i .i64 (byI L m xv)] := (u8.cells (show qb ≠ qf by omega) cb).at1 (nums_get hbv)
    have ro : h8.row qo k 1 = some [.i .i64 (m : Int)] := (u8.cells (show qo ≠ qf by omega) co7).at1 (hidx hm)
    have eF : (List.zipWith (pairF L B) opn xs).take (k + 1) = (List.zipWith (pairF L B) opn xs).take k ++ [pairF L B m xv] := zip_take hm hxv
    have hfl := sets_length ((List.zipWith (pairF L B) opn xs).take k) fx
    have hbyd : pairF L B m xv = (m, fixesI B (byI L m xv)) := rfl
    generalize byI L m xv = D at *
    repeat refine W_seq ?_
    refine W_block ?_
    repeat refine W_seq ?_
    refine W_cut (fun T h9 => h9 = h8 ∧ T.get 0 = some (.one v) ∧ T.get 1 = some (.one (.i .i64 gap)) ∧ T.get 2 = some (.one (.i .i64 room)) ∧ T.get 7 = some (.one x) ∧ T.get 8 = some (.one (.b G)) ∧ T.get 9 = some (.one (.sl qf 0 L.length L.length 1 true)) ∧ T.get 12 = some (.one (.sl qo 0 opn.length opn.length 1 false)) ∧ T.get 16 = some (.one (.i .i64 B)) ∧ T.get 17 = some (.one (.sl qb 0 opn.length opn.length 1 false)) ∧ T.get 22 = some (.one (.i .i64 (k : Int))) ∧ T.get 231 = some (.one (.b (fixesI B D)))) ?_ ?_
    · refine W_region ?_
      (refine VX (by simp only [go_sem, ↓reduceIte, Nat.reduceEqDiff, Nat.reduceAdd, t16, t17, t22]; rfl) ?_)
      (refine VX (ex_bin (by simp only [go_sem, ↓reduceIte, Nat.reduceEqDiff, t16, t17, t22]; rfl) (by simp only [go_sem, ↓reduceIte, Nat.reduceEqDiff, t16, t17, t22]; rfl) in_eql) ?_)
      (refine VX (by simp only [go_sem, ↓reduceIte, Nat.reduceEqDiff, Nat.reduceAdd, t16, t17, t22]; rfl) ?_)
      refine WO_grd rfl rfl (by simp only [go_sem, ↓reduceIte, Nat.reduceEqDiff, t16, t17, t22]; rfl) (fun c1 => ?_) (fun c1 => ?_)
      · refine VN (wantB_no rfl rfl (by simp only [go_sem, ↓reduceIte, Nat.reduceEqDiff, t16, t17, t22, c1]; rfl) rfl) ?_
        refine VN (wantB_no rfl rfl (by simp only [go_sem, ↓reduceIte, Nat.reduceEqDiff, t16, t17, t22, c1]; rfl) rfl) ?_
        refine VN (wantB_no rfl rfl (by simp only [go_sem, ↓reduceIte, Nat.reduceEqDiff, t16, t17, t22, c1]; rfl) rfl) ?_
        refine VN (wantB_no rfl rfl (by simp only [go_sem, ↓reduceIte, Nat.reduceEqDiff, t16, t17, t22, c1]; rfl) rfl) ?_
        refine VN (wantB_no rfl rfl (by simp only [go_sem, ↓reduceIte, Nat.reduceEqDiff, t16, t17, t22, c1]; rfl) rfl) ?_
        refine VN (wantB_no rfl rfl (by simp only [go_sem, ↓reduceIte, Nat.reduceEqDiff, t16, t17, t22, c1]; rfl) rfl) ?_
        refine VN (wantB_no rfl rfl (by simp only [go_sem, ↓reduceIte, Nat.reduceEqDiff, t16, t17, t22, c1]; rfl) rfl) ?_
        refine VN (wantB_no rfl rfl (by simp only [go_sem, ↓reduceIte, Nat.reduceEqDiff, t16, t17, t22, c1]; rfl) rfl) ?_
        refine VN (wantB_no rfl rfl (by simp only [go_sem, ↓reduceIte, Nat.reduceEqDiff, t16, t17, t22, c1]; rfl) rfl) ?_
        (refine VX (by simp only [go_sem, ↓reduceIte, Nat.reduceEqDiff, Nat.reduceAdd, t16, t17, t22, c1]; rfl) ?_)
        (refine VX (by simp only [go_sem, ↓reduceIte, Nat.reduceEqDiff, Nat.reduceAdd, t16, t17, t22, c1]; rfl) ?_)
        refine VN (wantB_no rfl rfl (by simp only [go_sem, ↓reduceIte, Nat.reduceEqDiff, t16, t17, t22, c1]; rfl) rfl) ?_
        refine VN (wantB_no rfl rfl (by simp only [go_sem, ↓reduceIte, Nat.reduceEqDiff, t16, t17, t22, c1]; rfl) rfl) ?_
        refine VN (wantB_no rfl rfl (by simp only [go_sem, ↓reduceIte, Nat.reduceEqDiff, t16, t17, t22, c1]; rfl) rfl) ?_
        refine VN (wantB_no rfl rfl (by simp only [go_sem, ↓reduceIte, Nat.reduceEqDiff, t16, t17, t22, c1]; rfl) rfl) ?_
        refine VN (wantB_no rfl rfl (by simp only [go_sem, ↓reduceIte, Nat.reduceEqDiff, t16, t17, t22, c1]; rfl) rfl) ?_
        refine VN (wantB_no rfl rfl (by simp only [go_sem, ↓reduceIte, Nat.reduceEqDiff, t16, t17, t22, c1]; rfl) rfl) ?_
        refine VN (wantB_no rfl rfl (by simp only [go_sem, ↓reduceIte, Nat.reduceEqDiff, t16, t17, t22, c1]; rfl) rfl) ?_
        refine VN (wantB_no rfl rfl (by simp only [go_sem, ↓reduceIte, Nat.reduceEqDiff, t16, t17, t22, c1]; rfl) rfl) ?_
        refine VN (wantB_no rfl rfl (by simp only [go_sem, ↓reduceIte, Nat.reduceEqDiff, t16, t17, t22, c1]; rfl) rfl) ?_
        (refine VX (by simp only [go_sem, ↓reduceIte, Nat.reduceEqDiff, Nat.reduceAdd, t16, t17, t22, c1]; rfl) ?_)
        refine WO_nil ⟨rfl, rfl, by (simp only [go_sem, ↓reduceIte, Nat.reduceEqDiff, t0, c1] <;> first | rfl | simp), by (simp only [go_sem, ↓reduceIte, Nat.reduceEqDiff, t1, c1] <;> first | rfl | simp), by (simp only [go_sem, ↓reduceIte, Nat.reduceEqDiff, t2, c1] <;> first | rfl | simp), by (simp only [go_sem, ↓reduceIte, Nat.reduceEqDiff, t7, c1] <;> first | rfl | simp), by (simp only [go_sem, ↓reduceIte, Nat.reduceEqDiff, t8, c1] <;> first | rfl | simp), by (simp only [go_sem, ↓reduceIte, Nat.reduceEqDiff, t9, c1] <;> first | rfl | simp), by (simp only [go_sem, ↓reduceIte, Nat.reduceEqDiff, t12, c1] <;> first | rfl | simp), by (simp only [go_sem, ↓reduceIte, Nat.reduceEqDiff, t16, c1] <;> first | rfl | simp), by (simp only [go_sem, ↓reduceIte, Nat.reduceEqDiff, t17, c1] <;> first | rfl | simp), by (simp only [go_sem, ↓reduceIte, Nat.reduceEqDiff, t22, c1] <;> first | rfl | simp), ?_⟩
        simp only [go_sem, ↓reduceIte, Nat.reduceEqDiff, c1]
        unfold fixesI
        simp [c1]
      · (refine VG (wantB_true rfl rfl (by simp only [go_sem, ↓reduceIte, Nat.reduceEqDiff, t16, t17, t22, c1]; rfl) rfl) (by simp only [go_sem, ↓reduceIte, Nat.reduceEqDiff, Nat.reduceAdd, t16, t17, t22, c1]; rfl) ?_)
        (refine VG (wantB_true rfl rfl (by simp only [go_sem, ↓reduceIte, Nat.reduceEqDiff, t16, t17, t22, c1]; rfl) rfl) (ex_bin (by simp only [go_sem, ↓reduceIte, Nat.reduceEqDiff, t16, t17, t22, c1]; rfl) (by simp only [go_sem, ↓reduceIte, Nat.reduceEqDiff, t16, t17, t22, c1]; rfl) in_gtr) ?_)
        (refine VG (wantB_true rfl rfl (by simp only [go_sem, ↓reduceIte, Nat.reduceEqDiff, t16, t17, t22, c1]; rfl) rfl) (by simp only [go_sem, ↓reduceIte, Nat.reduceEqDiff, Nat.reduceAdd, t16, t17, t22, c1]; rfl) ?_)
        refine WO_grd rfl rfl (by simp only [go_sem, ↓reduceIte, Nat.reduceEqDiff, t16, t17, t22, c1]; rfl) (fun c2 => ?_) (fun c2 => ?_)
        · (refine VG (wantB_true rfl rfl (by simp only [go_sem, ↓reduceIte, Nat.reduceEqDiff, t16, t17, t22, c1, c2]; rfl) rfl) (by simp only [go_sem, ↓reduceIte, Nat.reduceEqDiff, Nat.reduceAdd, t16, t17, t22, c1, c2]; rfl) ?_)
          (refine VG (wantB_true rfl rfl (by simp only [go_sem, ↓reduceIte, Nat.reduceEqDiff, t16, t17, t22, c1, c2]; rfl) rfl) (by simp only [go_sem, ↓reduceIte, Nat.reduceEqDiff, Nat.reduceAdd, t16, t17, t22, c1, c2]; rfl) ?_)
          (refine VG (wantB_true rfl rfl (by simp only [go_sem, ↓reduceIte, Nat.reduceEqDiff, t16, t17, t22, c1, c2]; rfl) rfl) (by simp (disch := first | omega | simp) only [go_sem, ↓reduceIte, Nat.reduceEqDiff, Nat.reduceAdd, t16, t17, t22, c1, c2]; rfl) ?_)
          (refine VG (wantB_true rfl rfl (by simp only [go_sem, ↓reduceIte, Nat.reduceEqDiff, t16, t17, t22, c1, c2]; rfl) rfl) (by simp (disch := first | omega | simp) only [go_sem, ↓reduceIte, Nat.reduceEqDiff, Nat.reduceAdd, rb, t16, t17, t22, c1, c2]; rfl) ?_)
          (refine VG (wantB_true rfl rfl (by simp only [go_sem, ↓reduceIte, Nat.reduceEqDiff, t16, t17, t22, c1, c2]; rfl) rfl) (ex_bin (by simp only [go_sem, ↓reduceIte, Nat.reduceEqDiff, t16, t17, t22, c1, c2]; rfl) (by simp only [go_sem, ↓reduceIte, Nat.reduceEqDiff, t16, t17, t22, c1, c2]; rfl) in_gtr) ?_)
          (refine VG (wantB_true rfl rfl (by simp only [go_sem, ↓reduceIte, Nat.reduceEqDiff, t16, t17, t22, c1, c2]; rfl) rfl) (by simp only [go_sem, ↓reduceIte, Nat.reduceEqDiff, Nat.reduceAdd, t16, t17, t22, c1, c2]; rfl) ?_)
          (refine VX (by simp only [go_sem, ↓reduceIte, Nat.reduceEqDiff, Nat.reduceAdd, t16, t17, t22, c1, c2]; rfl) ?_)
          (refine VX (by simp only [go_sem, ↓reduceIte, Nat.reduceEqDiff, Nat.reduceAdd, t16, t17, t22, c1, c2]; rfl) ?_)
          refine WO_grd rfl rfl (by simp only [go_sem, ↓reduceIte, Nat.reduceEqDiff, t16, t17, t22, c1, c2]; rfl) (fun c3 => ?_) (fun c3 => ?_)
          · refine VN (wantB_no rfl rfl (by simp only [go_sem, ↓reduceIte, Nat.reduceEqDiff, t16, t17, t22, c1, c2, c3]; rfl) rfl) ?_
            refine VN (wantB_no rfl rfl (by simp only [go_sem, ↓reduceIte, Nat.reduceEqDiff, t16, t17, t22, c1, c2, c3]; rfl) rfl) ?_
            refine VN (wantB_no rfl rfl (by simp only [go_sem, ↓reduceIte, Nat.reduceEqDiff, t16, t17, t22, c1, c2, c3]; rfl) rfl) ?_
            refine VN (wantB_no rfl rfl (by simp only [go_sem, ↓reduceIte, Nat.reduceEqDiff, t16, t17, t22, c1, c2, c3]; rfl) rfl) ?_
            refine VN (wantB_no rfl rfl (by simp only [go_sem, ↓reduceIte, Nat.reduceEqDiff, t16, t17, t22, c1, c2, c3]; rfl) rfl) ?_
            refine VN (wantB_no rfl rfl (by simp only [go_sem, ↓reduceIte, Nat.reduceEqDiff, t16, t17, t22, c1, c2, c3]; rfl) rfl) ?_
            refine VN (wantB_no rfl rfl (by simp only [go_sem, ↓reduceIte, Nat.reduceEqDiff, t16, t17, t22, c1, c2, c3]; rfl) rfl) ?_
            refine VN (wantB_no rfl rfl (by simp only [go_sem, ↓reduceIte, Nat.reduceEqDiff, t16, t17, t22, c1, c2, c3]; rfl) rfl) ?_
            refine VN (wantB_no rfl rfl (by simp only [go_sem, ↓reduceIte, Nat.reduceEqDiff, t16, t17, t22, c1, c2, c3]; rfl) rfl) ?_
            (refine VX (by simp only [go_sem, ↓reduceIte, Nat.reduceEqDiff, Nat.reduceAdd, t16, t17, t22, c1, c2, c3]; rfl) ?_)
            refine WO_nil ⟨rfl, rfl, by (simp only [go_sem, ↓reduceIte, Nat.reduceEqDiff, t0, c1, c2, c3] <;> first | rfl | simp), by (simp only [go_sem, ↓reduceIte, Nat.reduceEqDiff, t1, c1, c2, c3] <;> first | rfl | simp), by (simp only [go_sem, ↓reduceIte, Nat.reduceEqDiff, t2, c1, c2, c3] <;> first | rfl | simp), by (simp only [go_sem, ↓reduceIte, Nat.reduceEqDiff, t7, c1, c2, c3] <;> first | rfl | simp), by (simp only [go_sem, ↓reduceIte, Nat.reduceEqDiff, t8, c1, c2, c3] <;> first | rfl | simp), by (simp only [go_sem, ↓reduceIte, Nat.reduceEqDiff, t9, c1, c2, c3] <;> first | rfl | simp), by (simp only [go_sem, ↓reduceIte, Nat.reduceEqDiff, t12, c1, c2, c3] <;> first | rfl | simp), by (simp only [go_sem, ↓reduceIte, Nat.reduceEqDiff, t16, c1, c2, c3] <;> first | rfl | simp), by (simp only [go_sem, ↓reduceIte, Nat.reduceEqDiff, t17, c1, c2, c3] <;> first | rfl | simp), by (simp only [go_sem, ↓reduceIte, Nat.reduceEqDiff, t22, c1, c2, c3] <;> first | rfl | simp), ?_⟩
            simp only [go_sem, ↓reduceIte, Nat.reduceEqDiff, c1, c2, c3]
            unfold fixesI
            simp [c1, c2, c3]
          · (refine VG (wantB_true rfl rfl (by simp only [go_sem, ↓reduceIte, Nat.reduceEqDiff, t16, t17, t22, c1, c2, c3]; rfl) rfl) (by simp only [go_sem, ↓reduceIte, Nat.reduceEqDiff, Nat.reduceAdd, t16, t17, t22, c1, c2, c3]; rfl) ?_)
            (refine VG (wantB_true rfl rfl (by simp only [go_sem, ↓reduceIte, Nat.reduceEqDiff, t16, t17, t22, c1, c2, c3]; rfl) rfl) (ex_bin (by simp only [go_sem, ↓reduceIte, Nat.reduceEqDiff, t16, t17, t22, c1, c2, c3]; rfl) (by simp only [go_sem, ↓reduceIte, Nat.reduceEqDiff, t16, t17, t22, c1, c2, c3]; rfl) in_lss) ?_)
            (refine VG (wantB_true rfl rfl (by simp only [go_sem, ↓reduceIte, Nat.reduceEqDiff, t16, t17, t22, c1, c2, c3]; rfl) rfl) (by simp only [go_sem, ↓reduceIte, Nat.reduceEqDiff, Nat.reduceAdd, t16, t17, t22, c1, c2, c3]; rfl) ?_)
            refine WO_grd rfl rfl (by simp only [go_sem, ↓reduceIte, Nat.reduceEqDiff, t16, t17, t22, c1, c2, c3]; rfl) (fun c4 => ?_) (fun c4 => ?_)
            · (refine VG (wantB_true rfl rfl (by simp only [go_sem, ↓reduceIte, Nat.reduceEqDiff, t16, t17, t22, c1, c2, c3, c4]; rfl) rfl) (by simp only [go_sem, ↓reduceIte, Nat.reduceEqDiff, Nat.reduceAdd, t16, t17, t22, c1, c2, c3, c4]; rfl) ?_)
              (refine VG (wantB_true rfl rfl (by simp only [go_sem, ↓reduceIte, Nat.reduceEqDiff, t16, t17, t22, c1, c2, c3, c4]; rfl) rfl) (by simp only [go_sem, ↓reduceIte, Nat.reduceEqDiff, Nat.reduceAdd, t16, t17, t22, c1, c2, c3, c4]; rfl) ?_)
              (refine VG (wantB_true rfl rfl (by simp only [go_sem, ↓reduceIte, Nat.reduceEqDiff, t16, t17, t22, c1, c2, c3, c4]; rfl) rfl) (by simp (disch := first | omega | simp) only [go_sem, ↓reduceIte, Nat.reduceEqDiff, Nat.reduceAdd, t16, t17, t22, c1, c2, c3, c4]; rfl) ?_)
              (refine VG (wantB_true rfl rfl (by simp only [go_sem, ↓reduceIte, Nat.reduceEqDiff, t16, t17, t22, c1, c2, c3, c4]; rfl) rfl) (by simp (disch := first | omega | simp) only [go_sem, ↓reduceIte, Nat.reduceEqDiff, Nat.reduceAdd, rb, t16, t17, t22, c1, c2, c3, c4]; rfl) ?_)
              (refine VG (wantB_true rfl rfl (by simp only [go_sem, ↓reduceIte, Nat.reduceEqDiff, t16, t17, t22, c1, c2, c3, c4]; rfl) rfl) (ex_bin (by simp only [go_sem, ↓reduceIte, Nat.reduceEqDiff, t16, t17, t22, c1, c2, c3, c4]; rfl) (by simp only [go_sem, ↓reduceIte, Nat.reduceEqDiff, t16, t17, t22, c1, c2, c3, c4]; rfl) in_lss) ?_)
              (refine VG (wantB_true rfl rfl (by simp only [go_sem, ↓reduceIte, Nat.reduceEqDiff, t16, t17, t22, c1, c2, c3, c4]; rfl) rfl) (by simp only [go_sem, ↓reduceIte, Nat.reduceEqDiff, Nat.reduceAdd, t16, t17, t22, c1, c2, c3, c4]; rfl) ?_)
              (refine VX (by simp only [go_sem, ↓reduceIte, Nat.reduceEqDiff, Nat.reduceAdd, t16, t17, t22, c1, c2, c3, c4]; rfl) ?_)
              refine WO_nil ⟨rfl, rfl, by (simp only [go_sem, ↓reduceIte, Nat.reduceEqDiff, t0, c1, c2, c3, c4] <;> first | rfl | simp), by (simp only [go_sem, ↓reduceIte, Nat.reduceEqDiff, t1, c1, c2, c3, c4] <;> first | rfl | simp), by (simp only [go_sem, ↓reduceIte, Nat.reduceEqDiff, t2, c1, c2, c3, c4] <;> first | rfl | simp), by (simp only [go_sem, ↓reduceIte, Nat.reduceEqDiff, t7, c1, c2, c3, c4] <;> first | rfl | simp), by (simp only [go_sem, ↓reduceIte, Nat.reduceEqDiff, t8, c1, c2, c3, c4] <;> first | rfl | simp), by (simp only [go_sem, ↓reduceIte, Nat.reduceEqDiff, t9, c1, c2, c3, c4] <;> first | rfl | simp), by (simp only [go_sem, ↓reduceIte, Nat.reduceEqDiff, t12, c1, c2, c3, c4] <;> first | rfl | simp), by (simp only [go_sem, ↓reduceIte, Nat.reduceEqDiff, t16, c1, c2, c3, c4] <;> first | rfl | simp), by (simp only [go_sem, ↓reduceIte, Nat.reduceEqDiff, t17, c1, c2, c3, c4] <;> first | rfl | simp), by (simp only [go_sem, ↓reduceIte, Nat.reduceEqDiff, t22, c1, c2, c3, c4] <;> first | rfl | simp), ?_⟩
              simp only [go_sem, ↓reduceIte, Nat.reduceEqDiff, c1, c2, c3, c4]
              unfold fixesI
              simp [c1, c2, c3, c4]
            · refine VN (wantB_no rfl rfl (by simp only [go_sem, ↓reduceIte, Nat.reduceEqDiff, t16, t17, t22, c1, c2, c3, c4]; rfl) rfl) ?_
              refine VN (wantB_no rfl rfl (by simp only [go_sem, ↓reduceIte, Nat.reduceEqDiff, t16, t17, t22, c1, c2, c3, c4]; rfl) rfl) ?_
              refine VN (wantB_no rfl rfl (by simp only [go_sem, ↓reduceIte, Nat.reduceEqDiff, t16, t17, t22, c1, c2, c3, c4]; rfl) rfl) ?_
              refine VN (wantB_no rfl rfl (by simp only [go_sem, ↓reduceIte, Nat.reduceEqDiff, t16, t17, t22, c1, c2, c3, c4]; rfl) rfl) ?_
              refine VN (wantB_no rfl rfl (by simp only [go_sem, ↓reduceIte, Nat.reduceEqDiff, t16, t17, t22, c1, c2, c3, c4]; rfl) rfl) ?_
              (refine VG (wantB_true rfl rfl (by simp only [go_sem, ↓reduceIte, Nat.reduceEqDiff, t16, t17, t22, c1, c2, c3, c4]; rfl) rfl) (by simp only [go_sem, ↓reduceIte, Nat.reduceEqDiff, Nat.reduceAdd, t16, t17, t22, c1, c2, c3, c4]; rfl) ?_)
              (refine VX (by simp only [go_sem, ↓reduceIte, Nat.reduceEqDiff, Nat.reduceAdd, t16, t17, t22, c1, c2, c3, c4]; rfl) ?_)
              refine WO_nil ⟨rfl, rfl, by (simp only [go_sem, ↓reduceIte, Nat.reduceEqDiff, t0, c1, c2, c3, c4] <;> first | rfl | simp), by (simp only [go_sem, ↓reduceIte, Nat.reduceEqDiff, t1, c1, c2, c3, c4] <;> first | rfl | simp), by (simp only [go_sem, ↓reduceIte, Nat.reduceEqDiff, t2, c1, c2, c3, c4] <;> first | rfl | simp), by (simp only [go_sem, ↓reduceIte, Nat.reduceEqDiff, t7, c1, c2, c3, c4] <;> first | rfl | simp), by (simp only [go_sem, ↓reduceIte, Nat.reduceEqDiff, t8, c1, c2, c3, c4] <;> first | rfl | simp), by (simp only [go_sem, ↓reduceIte, Nat.reduceEqDiff, t9, c1, c2, c3, c4] <;> first | rfl | simp), by (simp only [go_sem, ↓reduceIte, Nat.reduceEqDiff, t12, c1, c2, c3, c4] <;> first | rfl | simp), by (simp only [go_sem, ↓reduceIte, Nat.reduceEqDiff, t16, c1, c2, c3, c4] <;> first | rfl | simp), by (simp only [go_sem, ↓reduceIte, Nat.reduceEqDiff, t17, c1, c2, c3, c4] <;> first | rfl | simp), by (simp only [go_sem, ↓reduceIte, Nat.reduceEqDiff, t22, c1, c2, c3, c4] <;> first | rfl | simp), ?_⟩
              simp only [go_sem, ↓reduceIte, Nat.reduceEqDiff, c1, c2, c3, c4]
              unfold fixesI
              simp [c1, c2, c3, c4]
        · refine VN (wantB_no rfl rfl (by simp only [go_sem, ↓reduceIte, Nat.reduceEqDiff, t16, t17, t22, c1, c2]; rfl) rfl) ?_
          refine VN (wantB_no rfl rfl (by simp only [go_sem, ↓reduceIte, Nat.reduceEqDiff, t16, t17, t22, c1, c2]; rfl) rfl) ?_
          refine VN (wantB_no rfl rfl (by simp only [go_sem, ↓reduceIte, Nat.reduceEqDiff, t16, t17, t22, c1, c2]; rfl) rfl) ?_
          refine VN (wantB_no rfl rfl (by simp only [go_sem, ↓reduceIte, Nat.reduceEqDiff, t16, t17, t22, c1, c2]; rfl) rfl) ?_
          refine VN (wantB_no rfl rfl (by simp only [go_sem, ↓reduceIte, Nat.reduceEqDiff, t16, t17, t22, c1, c2]; rfl) rfl) ?_
          (refine VG (wantB_true rfl rfl (by simp only [go_sem, ↓reduceIte, Nat.reduceEqDiff, t16, t17, t22, c1, c2]; rfl) rfl) (by simp only [go_sem, ↓reduceIte, Nat.reduceEqDiff, Nat.reduceAdd, t16, t17, t22, c1, c2]; rfl) ?_)
          (refine VX (by simp only [go_sem, ↓reduceIte, Nat.reduceEqDiff, Nat.reduceAdd, t16, t17, t22, c1, c2]; rfl) ?_)
          (refine VX (by simp only [go_sem, ↓reduceIte, Nat.reduceEqDiff, Nat.reduceAdd, t16, t17, t22, c1, c2]; rfl) ?_)
          (refine VG (wantB_true rfl rfl (by simp only [go_sem, ↓reduceIte, Nat.reduceEqDiff, t16, t17, t22, c1, c2]; rfl) rfl) (by simp only [go_sem, ↓reduceIte, Nat.reduceEqDiff, Nat.reduceAdd, t16, t17, t22, c1, c2]; rfl) ?_)
          (refine VG (wantB_true rfl rfl (by simp only [go_sem, ↓reduceIte, Nat.reduceEqDiff, t16, t17, t22, c1, c2]; rfl) rfl) (ex_bin (by simp only [go_sem, ↓reduceIte, Nat.reduceEqDiff, t16, t17, t22, c1, c2]; rfl) (by simp only [go_sem, ↓reduceIte, Nat.reduceEqDiff, t16, t17, t22, c1, c2]; rfl) in_lss) ?_)
          (refine VG (wantB_true rfl rfl (by simp only [go_sem, ↓reduceIte, Nat.reduceEqDiff, t16, t17, t22, c1, c2]; rfl) rfl) (by simp only [go_sem, ↓reduceIte, Nat.reduceEqDiff, Nat.reduceAdd, t16, t17, t22, c1, c2]; rfl) ?_)
          refine WO_grd rfl rfl (by simp only [go_sem, ↓reduceIte, Nat.reduceEqDiff, t16, t17, t22, c1, c2]; rfl) (fun c3 => ?_) (fun c3 => ?_)
          · (refine VG (wantB_true rfl rfl (by simp only [go_sem, ↓reduceIte, Nat.reduceEqDiff, t16, t17, t22, c1, c2, c3]; rfl) rfl) (by simp only [go_sem, ↓reduceIte, Nat.reduceEqDiff, Nat.reduceAdd, t16, t17, t22, c1, c2, c3]; rfl) ?_)
            (refine VG (wantB_true rfl rfl (by simp only [go_sem, ↓reduceIte, Nat.reduceEqDiff, t16, t17, t22, c1, c2, c3]; rfl) rfl) (by simp only [go_sem, ↓reduceIte, Nat.reduceEqDiff, Nat.reduceAdd, t16, t17, t22, c1, c2, c3]; rfl) ?_)
            (refine VG (wantB_true rfl rfl (by simp only [go_sem, ↓reduceIte, Nat.reduceEqDiff, t16, t17, t22, c1, c2, c3]; rfl) rfl) (by simp (disch := first | omega | simp) only [go_sem, ↓reduceIte, Nat.reduceEqDiff, Nat.reduceAdd, t16, t17, t22, c1, c2, c3]; rfl) ?_)
            (refine VG (wantB_true rfl rfl (by simp only [go_sem, ↓reduceIte, Nat.reduceEqDiff, t16, t17, t22, c1, c2, c3]; rfl) rfl) (by simp (disch := first | omega | simp) only [go_sem, ↓reduceIte, Nat.reduceEqDiff, Nat.reduceAdd, rb, t16, t17, t22, c1, c2, c3]; rfl) ?_)
            (refine VG (wantB_true rfl rfl (by simp only [go_sem, ↓reduceIte, Nat.reduceEqDiff, t16, t17, t22, c1, c2, c3]; rfl) rfl) (ex_bin (by simp only [go_sem, ↓reduceIte, Nat.reduceEqDiff, t16, t17, t22, c1, c2, c3]; rfl) (by simp only [go_sem, ↓reduceIte, Nat.reduceEqDiff, t16, t17, t22, c1, c2, c3]; rfl) in_lss) ?_)
            (refine VG (wantB_true rfl rfl (by simp only [go_sem, ↓reduceIte, Nat.reduceEqDiff, t16, t17, t22, c1, c2, c3]; rfl) rfl) (by simp only [go_sem, ↓reduceIte, Nat.reduceEqDiff, Nat.reduceAdd, t16, t17, t22, c1, c2, c3]; rfl) ?_)
            (refine VX (by simp only [go_sem, ↓reduceIte, Nat.reduceEqDiff, Nat.reduceAdd, t16, t17, t22, c1, c2, c3]; rfl) ?_)
            refine WO_nil ⟨rfl, rfl, by (simp only [go_sem, ↓reduceIte, Nat.reduceEqDiff, t0, c1, c2, c3] <;> first | rfl | simp), by (simp only [go_sem, ↓reduceIte, Nat.reduceEqDiff, t1, c1, c2, c3] <;> first | rfl | simp), by (simp only [go_sem, ↓reduceIte, Nat.reduceEqDiff, t2, c1, c2, c3] <;> first | rfl | simp), by (simp only [go_sem, ↓reduceIte, Nat.reduceEqDiff, t7, c1, c2, c3] <;> first | rfl | simp), by (simp only [go_sem, ↓reduceIte, Nat.reduceEqDiff, t8, c1, c2, c3] <;> first | rfl | simp), by (simp only [go_sem, ↓reduceIte, Nat.reduceEqDiff, t9, c1, c2, c3] <;> first | rfl | simp), by (simp only [go_sem, ↓reduceIte, Nat.reduceEqDiff, t12, c1, c2, c3] <;> first | rfl | simp), by (simp only [go_sem, ↓reduceIte, Nat.reduceEqDiff, t16, c1, c2, c3] <;> first | rfl | simp), by (simp only [go_sem, ↓reduceIte, Nat.reduceEqDiff, t17, c1, c2, c3] <;> first | rfl | simp), by (simp only [go_sem, ↓reduceIte, Nat.reduceEqDiff, t22, c1, c2, c3] <;> first | rfl | simp), ?_⟩
            simp only [go_sem, ↓reduceIte, Nat.reduceEqDiff, c1, c2, c3]
            unfold fixesI
            simp [c1, c2, c3]
          · refine VN (wantB_no rfl rfl (by simp only [go_sem, ↓reduceIte, Nat.reduceEqDiff, t16, t17, t22, c1, c2, c3]; rfl) rfl) ?_
            refine VN (wantB_no rfl rfl (by simp only [go_sem, ↓reduceIte, Nat.reduceEqDiff, t16, t17, t22, c1, c2, c3]; rfl) rfl) ?_
            refine VN (wantB_no rfl rfl (by simp only [go_sem, ↓reduceIte, Nat.reduceEqDiff, t16, t17, t22, c1, c2, c3]; rfl) rfl) ?_
            refine VN (wantB_no rfl rfl (by simp only [go_sem, ↓reduceIte, Nat.reduceEqDiff, t16, t17, t22, c1, c2, c3]; rfl) rfl) ?_
            refine VN (wantB_no rfl rfl (by simp only [go_sem, ↓reduceIte, Nat.reduceEqDiff, t16, t17, t22, c1, c2, c3]; rfl) rfl) ?_
            (refine VG (wantB_true rfl rfl (by simp only [go_sem, ↓reduceIte, Nat.reduceEqDiff, t16, t17, t22, c1, c2, c3]; rfl) rfl) (by simp only [go_sem, ↓reduceIte, Nat.reduceEqDiff, Nat.reduceAdd, t16, t17, t22, c1, c2, c3]; rfl) ?_)
            (refine VX (by simp only [go_sem, ↓reduceIte, Nat.reduceEqDiff, Nat.reduceAdd, t16, t17, t22, c1, c2, c3]; rfl) ?_)
            refine WO_nil ⟨rfl, rfl, by (simp only [go_sem, ↓reduceIte, Nat.reduceEqDiff, t0, c1, c2, c3] <;> first | rfl | simp), by (simp only [go_sem, ↓reduceIte, Nat.reduceEqDiff, t1, c1, c2, c3] <;> first | rfl | simp), by (simp only [go_sem, ↓reduceIte, Nat.reduceEqDiff, t2, c1, c2, c3] <;> first | rfl | simp), by (simp only [go_sem, ↓reduceIte, Nat.reduceEqDiff, t7, c1, c2, c3] <;> first | rfl | simp), by (simp only [go_sem, ↓reduceIte, Nat.reduceEqDiff, t8, c1, c2, c3] <;> first | rfl | simp), by (simp only [go_sem, ↓reduceIte, Nat.reduceEqDiff, t9, c1, c2, c3] <;> first | rfl | simp), by (simp only [go_sem, ↓reduceIte, Nat.reduceEqDiff, t12, c1, c2, c3] <;> first | rfl | simp), by (simp only [go_sem, ↓reduceIte, Nat.reduceEqDiff, t16, c1, c2, c3] <;> first | rfl | simp), by (simp only [go_sem, ↓reduceIte, Nat.reduceEqDiff, t17, c1, c2, c3] <;> first | rfl | simp), by (simp only [go_sem, ↓reduceIte, Nat.reduceEqDiff, t22, c1, c2, c3] <;> first | rfl | simp), ?_⟩
            simp only [go_sem, ↓reduceIte, Nat.reduceEqDiff, c1, c2, c3]
            unfold fixesI
            simp [c1, c2, c3]
    clear t0 t1 t2 t7 t8 t9 t12 t16 t17 t22
    rintro T h9 ⟨rfl, t0, t1, t2, t7, t8, t9, t12, t16, t17, t22, t231⟩
    refine W_cond (by (simp only [go_sem, ↓reduceIte, Nat.reduceEqDiff, t231] <;> rfl)) (fun hc => ?_) (fun hc => W_skip ?_)
    · (repeat refine W_seq ?_); refine W_region ?_
      iterate 6 (first | (refine VX (by simp only [go_sem, ↓reduceIte, Nat.reduceEqDiff, Nat.reduceAdd, t9, t12, t22]; rfl) ?_) | (refine VX (by simp (disch := first | omega | simp) only [go_sem, ↓reduceIte, Nat.reduceEqDiff, Nat.reduceAdd, t9, t12, t22]; rfl) ?_) | (refine VX (by simp (disch := first | omega | simp) only [go_sem, ↓reduceIte, Nat.reduceEqDiff, Nat.reduceAdd, ro, t9, t12, t22]; rfl) ?_))
      refine WO_store1 (ee) (ee) sz4 k8.fixed k8.may (by simp [bools, hfl]; omega) fun h10 p10 => ?_
      rw [bools_set (by rw [hfl]; omega)] at p10
      refine WO_nil ?_; (repeat refine W_seq ?_)
      refine W_region ?_
      iterate 3 (first | (refine VX (by simp only [go_sem, ↓reduceIte, Nat.reduceEqDiff, Nat.reduceAdd, t22]; rfl) ?_) | (refine VX (ex_bin (by simp only [go_sem, ↓reduceIte, Nat.reduceEqDiff, t22]; rfl) (by simp only [go_sem, ↓reduceIte, Nat.reduceEqDiff, t22]; rfl) in_add) ?_; (try rw [wrap_id (by omega) (by omega)])))
      refine WO_nil ⟨opn.length - (k + 1), by omega, k + 1, rfl, hlt, gt t0, gt t1, gt t2, gt t7, gt t8, gt t9, gt t12, gt t16, gt t17, gs, ?_, u8.trans p10.up, p10.ok o8⟩
      rw [eF, sets_snoc, hbyd, hc]
      exact k8.putFix p10 (by simp)
    · refine W_region ?_
      iterate 3 (first | (refine VX (by simp only [go_sem, ↓reduceIte, Nat.reduceEqDiff, Nat.reduceAdd, t22]; rfl) ?_) | (refine VX (ex_bin (by simp only [go_sem, ↓reduceIte, Nat.reduceEqDiff, t22]; rfl) (by simp only [go_sem, ↓reduceIte, Nat.reduceEqDiff, t22]; rfl) in_add) ?_; (try rw [wrap_id (by omega) (by omega)])))
      refine WO_nil ⟨opn.length - (k + 1), by omega, k + 1, rfl, hlt, gt t0, gt t1, gt t2, gt t7, gt t8, gt t9, gt t12, gt t16, gt t17, gs, ?_, u8, o8⟩
      have hsame : (sets fx ((List.zipWith (pairF L B) opn xs).take k))[m]? = some false := by
        rw [sets_get _ _ _ fun p hp => ?_]
        · exact hof m (List.mem_of_getElem? hm)
        · obtain ⟨i, hi⟩ := List.mem_iff_getElem?.1 hp
          have hik : i < k := by have := (List.getElem?_eq_some_iff.1 hi).1; simp at this; omega
          rw [List.getElem?_take_of_lt hik, List.getElem?_zipWith] at hi
          intro e
          cases ho : opn[i]? with
          | none => rw [ho] at hi; simp at hi
          | some q =>
            cases hx2 : xs[i]? with
            | none => rw [ho, hx2] at hi; simp at hi
            | some z =>
              rw [ho, hx2] at hi
              have hq : p.1 = q := by cases hi; rfl
              obtain ⟨a1, a2⟩ := List.getElem?_eq_some_iff.1 ho
              obtain ⟨b1, b2⟩ := List.getElem?_eq_some_iff.1 hm
              have := (List.nodup_iff_pairwise_ne.1 hnd)
              have := (List.pairwise_iff_getElem.1 this) i k a1 b1 hik
              rw [a2, b2] at this
              omega
      rw [eF, sets_snoc, hbyd, hc, set_same hsame]
      exact k8
  · have hge : ¬ (k : Int) < (opn.length : Int) := by simpa using hge
    have hk : k = opn.length := by omega
    subst hk
    have e1 : (List.zipWith (pairF L B) opn xs).take opn.length = List.zipWith (pairF L B) opn xs := List.take_of_length_le (by simp; omega)
    rw [e1] at k8
    have hF : sets fx (List.zipWith (pairF L B) opn xs) = roundF L opn xs fx := by unfold roundF; rw [hB]
    rw [hF] at k8
    refine ⟨fun _ => ⟨_, hless, _, _, n, rfl, t0, t1, t2, t7, t8, t9, k8, ?_, fun i hi' => hw i (hrff i hi'), by omega, hR, u7.trans (u8.mono fun b hb => by omega), o8⟩, fun hne => absurd rfl hne⟩
    intro s hs'
    rcases sets_mem _ _ _ hs' with q | ⟨p, hp, rfl⟩
    · exact sok s q
    · obtain ⟨i, hi', y, hy, rfl⟩ := zip_mem hp
      exact clampAt_bd lok (holt i hi') (hxb y hy)
end Go.Ai
